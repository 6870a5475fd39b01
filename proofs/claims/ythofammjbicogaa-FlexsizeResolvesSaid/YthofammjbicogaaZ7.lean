/-
  Slices of flat things of some cells each: what one holds; one of the call's own, that grows.
-/
/-
  Package flexbox: automatic margins.
-/
/-
  Package flexbox: spent.
-/
/-
  Package flexbox: spaces of any way.
-/
/-
  Package flexbox: what margins and spaces are worth.
-/
import Derived.Test.YthofammjbicogaaZ1
import Derived.Test.YthofammjbicogaaZ6
import Derived.Test.YthofammjbicogaaZ5
import Derived.Laws.CopyOwn
namespace Go.Proofs.Ythofammjbicogaa
open Go.RowKit
set_option linter.unusedSimpArgs false
set_option linter.unusedVariables false

/-- The slice of k elements of s cells at ao holds these cells. -/
def RowV (w : World) (ao : Option Addr) (k s : Nat) (vs : List Value) : Prop :=
  vs.length = k * s ∧ (0 < k → ∃ g off, ao = some ⟨g, off, none⟩ ∧ g < w.heap.size ∧ ∀ i, i < k * s → w.cell? ⟨g, off + i, none⟩ = vs[i]?)
theorem RowV.nil (w : World) (ao : Option Addr) (s : Nat) : RowV w ao 0 s [] := ⟨by simp, fun h => absurd h (by omega)⟩
theorem RowV.below {w w' : World} {ao : Option Addr} {k s : Nat} {vs : List Value} (h : RowV w ao k s vs) (hb : Below w.heap.size w w') : RowV w' ao k s vs := by
  refine ⟨h.1, fun hk => ?_⟩
  obtain ⟨g, off, e, hg, hc⟩ := h.2 hk
  exact ⟨g, off, e, Nat.lt_of_lt_of_le hg hb.size, fun i hi => (hb.cell (p := ⟨g, off + i, none⟩) hg).trans (hc i hi)⟩
theorem RowV.at {w : World} {ao : Option Addr} {k s : Nat} {vs : List Value} (h : RowV w ao k s vs) {i : Nat} (hi : i < k) :
    ∃ g off, ao = some ⟨g, off, none⟩ ∧ g < w.heap.size ∧ ∀ j, j < s → w.cell? ⟨g, off + i * s + j, none⟩ = vs[i * s + j]? := by
  obtain ⟨g, off, e, hg, hc⟩ := h.2 (by omega)
  refine ⟨g, off, e, hg, fun j hj => ?_⟩
  rw [Nat.add_assoc]
  refine hc _ ?_
  have : i * s + s ≤ k * s := by rw [← Nat.succ_mul]; exact Nat.mul_le_mul_right _ hi
  omega
theorem RowV.take {w : World} {ao : Option Addr} {k s : Nat} {vs : List Value} (h : RowV w ao k s vs) {m : Nat} (hm : m ≤ k) : RowV w ao m s (vs.take (m * s)) := by
  have hms : m * s ≤ k * s := Nat.mul_le_mul_right _ hm
  refine ⟨by rw [List.length_take, h.1]; omega, fun hk => ?_⟩
  obtain ⟨g, off, e, hg, hc⟩ := h.2 (by omega)
  refine ⟨g, off, e, hg, fun i hi => ?_⟩
  rw [List.getElem?_take_of_lt hi]
  exact hc i (by omega)
def OwnW (w : World) (B : Nat) (T : TypeId) (s : Nat) (ao : Option Addr) (k cap : Nat) (vs : List Value) : Prop := w.ownsRow B T s (.slice ao k cap) k vs
theorem OwnW.row {w : World} {B : Nat} {T : TypeId} {s : Nat} {ao : Option Addr} {k cap : Nat} {vs : List Value} (h : OwnW w B T s ao k cap vs) : RowV w ao k s vs := by
  refine ⟨h.1, fun hk => ?_⟩
  rcases h.2 with ⟨e, e2⟩ | ⟨g, c, cur, e, _, hg, hl, hm, hs, ht⟩
  · omega
  · obtain ⟨rfl, -, rfl⟩ : ao = some ⟨g, 0, none⟩ ∧ True ∧ cap = c := by simpa using e
    refine ⟨g, 0, rfl, (Array.getElem?_eq_some_iff.1 hg).1, fun i hi => ?_⟩
    rw [cell_of_row w g _ _ _ _ hg, Nat.zero_add, ← Array.getElem?_toList, ← ht, List.getElem?_take_of_lt hi]
theorem OwnW.shape {w : World} {B : Nat} {T : TypeId} {s : Nat} {ao : Option Addr} {k cap : Nat} {vs : List Value} (h : OwnW w B T s ao k cap vs) : k ≤ cap ∧ cap ≤ maxLen := by
  rcases h.2 with ⟨e, e2⟩ | ⟨g, c, cur, e, _, hg, hl, hm, hs, ht⟩
  · simp at e; omega
  · simp at e; omega
theorem OwnW.nil (w : World) (B : Nat) (T : TypeId) (s : Nat) : OwnW w B T s none 0 0 [] := World.ownsRow_nil _ _ _ _
theorem OwnW.below {w w' : World} {B : Nat} {T : TypeId} {s : Nat} {ao : Option Addr} {k cap : Nat} {vs : List Value} (h : OwnW w B T s ao k cap vs) (hb : Below w.heap.size w w') : OwnW w' B T s ao k cap vs := by
  refine ⟨h.1, ?_⟩
  rcases h.2 with h | ⟨g, c, cur, hv, hg, hh, r⟩
  · exact .inl h
  · exact .inr ⟨g, c, cur, hv, hg, (hb.block g (Array.getElem?_eq_some_iff.1 hh).1).trans hh, r⟩
theorem OwnW.alloc {w : World} {B : Nat} {T : TypeId} {s : Nat} {ao : Option Addr} {k cap : Nat} {vs : List Value} (h : OwnW w B T s ao k cap vs) (o : Obj) : OwnW (w.alloc o) B T s ao k cap vs := World.ownsRow.alloc h _
theorem OwnW.drew {w : World} {B : Nat} {T : TypeId} {s : Nat} {ao : Option Addr} {k cap : Nat} {vs : List Value} (h : OwnW w B T s ao k cap vs) : OwnW w.drew B T s ao k cap vs := World.ownsRow.drew h
theorem OwnW.ge {w : World} {B : Nat} {T : TypeId} {s : Nat} {ao : Option Addr} {k cap : Nat} {vs : List Value} (h : OwnW w B T s ao k cap vs) {g : Nat} (hg : (Value.slice ao k cap).ownBlock = some g) : B ≤ g ∧ g < w.heap.size := World.ownsRow.lt h g hg
theorem OwnW.from {w : World} {B : Nat} {T : TypeId} {s : Nat} {ao : Option Addr} {k cap : Nat} {vs : List Value} (h : OwnW w B T s ao k cap vs) : ∀ g off, ao = some ⟨g, off, none⟩ → B ≤ g := fun g off e => by
  subst e
  exact (h.ge (g := g) (by simp [Value.ownBlock])).1
/-- A block of another type isn't the row's. -/
theorem OwnW.ne {w : World} {B : Nat} {T : TypeId} {s : Nat} {ao : Option Addr} {k cap : Nat} {vs : List Value} (h : OwnW w B T s ao k cap vs) {b : Nat} {cs : Array Value} {T2 : TypeId} (hb : Blk w b cs T2) (hT : T2 ≠ T) : (Value.slice ao k cap).ownBlock ≠ some b := by
  intro e
  rcases h.2 with ⟨hv, _⟩ | ⟨g, c, cur, hv, _, hh, _⟩
  · rw [hv] at e; simp [Value.ownBlock] at e
  · rw [hv] at e
    simp [Value.ownBlock] at e
    subst e
    unfold Blk at hb
    rw [hh] at hb
    simp at hb
    exact hT hb.2.symm
/-- Behind an append of one thing. -/
theorem OwnW.grown {w w1 : World} {B : Nat} {T : TypeId} {s : Nat} {ao : Option Addr} {k cap : Nat} {vs us : List Value} {v' : Value} {o : Obj} (h : OwnW w B T s ao k cap vs)
    (ho : w1.ownsRow B T s v' (k + 1) (vs ++ us)) (hg : (w.alloc o).grownBy w1 (Value.slice ao k cap).ownBlock) (hB : B ≤ w.heap.size) :
    ∃ ao' cap', v' = .slice ao' (k + 1) cap' ∧ OwnW w1 B T s ao' (k + 1) cap' (vs ++ us) ∧ (∀ b cs T2, Blk w b cs T2 → (Value.slice ao k cap).ownBlock ≠ some b → Blk w1 b cs T2) ∧ (∀ C a, C ≤ B → Below C a w → Below C a w1) := by
  have hs : ∃ ao' cap', v' = .slice ao' (k + 1) cap' := by
    rcases ho.2 with ⟨_, e⟩ | ⟨g, c, cur, e, _⟩
    · omega
    · exact ⟨_, _, e⟩
  obtain ⟨ao', cap', rfl⟩ := hs
  refine ⟨ao', cap', rfl, ho, fun b cs T2 h2 hne => ?_, fun C a hC hb => ?_⟩
  · exact (hg.block b (h2.alloc o).lt (fun e => hne e.symm)).trans (h2.alloc o)
  · refine (hb.alloc (Nat.le_trans hC hB) o).grown hg (by simp; omega) ?_
    intro j hj
    have := (h.ge hj).1
    omega
end Go.Proofs.Ythofammjbicogaa
namespace Go.Proofs.Ythofammjbicogaa
open Go.RowKit
set_option linter.unusedSimpArgs false
set_option linter.unusedVariables false

theorem RowV.drew {w : World} {ao : Option Addr} {k s : Nat} {vs : List Value} (h : RowV w ao k s vs) : RowV w.drew ao k s vs := h
theorem RowI.drew {w : World} {ao : Option Addr} {k : Nat} {xs : List Int} (h : RowI w ao k xs) : RowI w.drew ao k xs := h
theorem RowV.but {w w' : World} {b : Nat} {ao : Option Addr} {k s : Nat} {vs : List Value} (h : RowV w ao k s vs) (hb : But b w w') (hne : ∀ g off, ao = some ⟨g, off, none⟩ → g ≠ b) : RowV w' ao k s vs := by
  refine ⟨h.1, fun hk => ?_⟩
  obtain ⟨g, off, e, hg, hc⟩ := h.2 hk
  exact ⟨g, off, e, Nat.lt_of_lt_of_le hg hb.size, fun i hi => (World.cell?_of_block (w := w) (a := ⟨g, off + i, none⟩) (hb.block g hg (hne g off e))).trans (hc i hi)⟩
/-- A block of pairs that holds just these numbers. -/
def BlkM (w : World) (g : Nat) (xs : List Int) : Prop := Blk w g (i64s xs).toArray 66
theorem BlkM.cell {w : World} {g : Nat} {xs : List Int} (h : BlkM w g xs) {i : Nat} (hi : i < xs.length) : w.cell? ⟨g, i, none⟩ = some (.int .i64 (xs.getD i 0)) := by
  refine Blk.cell h i _ ?_
  unfold i64s
  simp [List.getD, hi]
theorem BlkM.free {w : World} {g : Nat} {xs : List Int} (h : BlkM w g xs) (i : Nat) : w.frozen? ⟨g, i, none⟩ = false := Blk.free h i
theorem BlkM.put {w : World} {g : Nat} {xs : List Int} (h : BlkM w g xs) (i : Nat) (y : Int) : BlkM (w.setCell ⟨g, i, none⟩ (.int .i64 y)) g (xs.set i y) := by
  have h1 := Blk.set h i (.int .i64 y)
  unfold BlkM
  have e : (i64s (xs.set i y)).toArray = (i64s xs).toArray.setIfInBounds i (.int .i64 y) := by
    unfold i64s
    rw [List.map_set, List.setIfInBounds_toArray]
  rw [e]
  exact h1
theorem BlkM.below {w w' : World} {g : Nat} {xs : List Int} (h : BlkM w g xs) (hb : Below w.heap.size w w') : BlkM w' g xs := Blk.below h hb
theorem made2 (n : Nat) : (madeCells #[.int .i64 0, .int .i64 0] (n * 2)).toList = i64s (List.replicate (n * 2) 0) := by
  apply List.ext_getElem
  · simp [i64s, size_madeCells]
  · intro i h1 h2
    simp [i64s, madeCells]
    rcases (by omega : i % 2 = 0 ∨ i % 2 = 1) with h | h <;> simp [h]
theorem BlkM.lt {w : World} {g : Nat} {xs : List Int} (h : BlkM w g xs) : g < w.heap.size := Blk.lt h
theorem BlkM.made {w : World} {B g n : Nat} (h : w.ownsRow B 66 2 (.slice (some ⟨g, 0, none⟩) n n) n (madeCells #[.int .i64 0, .int .i64 0] (n * 2)).toList) : BlkM w g (List.replicate (n * 2) 0) := by
  rcases h.2 with ⟨e, _⟩ | ⟨g', c, cur, e, _, hg, hl, hm, hs, ht⟩
  · simp at e
  · obtain ⟨rfl, rfl⟩ : g = g' ∧ n = c := by simpa using e
    rw [List.take_of_length_le (by rw [Array.length_toList]; omega), made2] at ht
    unfold BlkM Blk
    rw [hg, ← ht]
/-- The marked places below one, in order. -/
def mkL (bs : List Bool) : Nat → List Nat
  | 0 => []
  | p + 1 => mkL bs p ++ (if bs.getD p false then [p] else [])
theorem mkL_lt {bs : List Bool} : ∀ {p q : Nat}, q ∈ mkL bs p → q < p
  | 0, q, h => by simp [mkL] at h
  | p + 1, q, h => by
    unfold mkL at h
    rcases List.mem_append.1 h with h | h
    · have := mkL_lt h; omega
    · split at h <;> simp at h
      omega
theorem mkL_yes {bs : List Bool} {p : Nat} (h : bs.getD p false = true) : mkL bs (p + 1) = mkL bs p ++ [p] := by
  show mkL bs p ++ _ = _
  rw [if_pos h]
theorem mkL_no {bs : List Bool} {p : Nat} (h : bs.getD p false = false) : mkL bs (p + 1) = mkL bs p := by
  show mkL bs p ++ _ = _
  rw [if_neg (by rw [h]; decide), List.append_nil]
theorem mkL_len (bs : List Bool) : ∀ p, (mkL bs p).length ≤ p
  | 0 => by simp [mkL]
  | p + 1 => by
    have := mkL_len bs p
    unfold mkL
    split <;> simp <;> omega
theorem mkL_end (bs : List Bool) {m : Nat} (h : bs.length ≤ m) : ∀ p, m ≤ p → mkL bs p = mkL bs m
  | 0, hp => by have : m = 0 := by omega
                rw [this]
  | p + 1, hp => by
    rcases Nat.eq_or_lt_of_le hp with e | e
    · rw [e]
    · rw [← mkL_end bs h p (by omega)]
      show mkL bs p ++ _ = _
      have : bs.getD p false = false := by simp [List.getD, List.getElem?_eq_none (show bs.length ≤ p by omega)]
      rw [this]
      simp
/-- Places as pairs. -/
def mkV (ms : List Nat) : List Value := ms.flatMap fun p => [.int .i64 (((p / 2 : Nat) : Int)), .int .i64 (((p % 2 : Nat) : Int))]
theorem mkV_app (a b : List Nat) : mkV (a ++ b) = mkV a ++ mkV b := by simp [mkV]
theorem mkV_get (ms : List Nat) (j : Nat) (hj : j < ms.length) : (mkV ms)[j * 2 + 0]? = some (.int .i64 (((ms.getD j 0 / 2 : Nat) : Int))) ∧ (mkV ms)[j * 2 + 1]? = some (.int .i64 (((ms.getD j 0 % 2 : Nat) : Int))) := by
  induction ms generalizing j with
  | nil => simp at hj
  | cons x l ih =>
    have e : mkV (x :: l) = .int .i64 (((x / 2 : Nat) : Int)) :: .int .i64 (((x % 2 : Nat) : Int)) :: mkV l := rfl
    rw [e]
    match j with
    | 0 => simp [List.getD]
    | j + 1 =>
      have := ih j (by simpa using hj)
      have h1 : (j + 1) * 2 + 0 = (j * 2 + 0) + 1 + 1 := by omega
      have h2 : (j + 1) * 2 + 1 = (j * 2 + 1) + 1 + 1 := by omega
      rw [h1, h2, List.getElem?_cons_succ, List.getElem?_cons_succ, List.getElem?_cons_succ, List.getElem?_cons_succ]
      simpa [List.getD] using this
theorem mkV_one {p i q : Nat} (h1 : p / 2 = i) (h2 : p % 2 = q) : mkV [p] = [.int .i64 ((i : Int)), .int .i64 ((q : Int))] := by
  show [_, _] = _
  rw [h1, h2]
/-- Parts laid at places, the first j of them. -/
def mgL (ms : List Nat) (ps : List Int) (N : Nat) : Nat → List Int
  | 0 => List.replicate N 0
  | j + 1 => (mgL ms ps N j).set (ms.getD j 0) (ps.getD j 0)
theorem mgL_len (ms : List Nat) (ps : List Int) (N : Nat) : ∀ j, (mgL ms ps N j).length = N
  | 0 => by simp [mgL]
  | j + 1 => by unfold mgL; rw [List.length_set]; exact mgL_len ms ps N j
/-- The margins, of such room. -/
def mgF (bs : List Bool) (k : Nat) (f : Int) : List Int :=
  if f ≤ 0 then List.replicate (k * 2) 0 else mgL (mkL bs (2 * k)) (evL f (mkL bs (2 * k)).length) (k * 2) (mkL bs (2 * k)).length
def bools (bs : List Bool) : List Value := bs.map fun b => .bool b
theorem bools_get (bs : List Bool) (i : Nat) (hi : i < bs.length) : (bools bs)[i]? = some (.bool (bs.getD i false)) := by
  simp [bools, List.getD, hi]
theorem idx_b0 (x y : Bool) (w : World) : (Instr.index 71 (.agg #[.bool x, .bool y]) (.int .i64 0)).run Try.prog w = .ok (.bool x) w := by
  simp [Instr.index, run_underlying Try.underlying71, asIntOf, go_sem]
theorem idx_b1 (x y : Bool) (w : World) : (Instr.index 71 (.agg #[.bool x, .bool y]) (.int .i64 1)).run Try.prog w = .ok (.bool y) w := by
  simp [Instr.index, run_underlying Try.underlying71, asIntOf, go_sem]
def AutOut (w : World) (bs : List Bool) (k M gk : Nat) (s8 s20 : Value) (wr : World) : Prop :=
  ∃ (i : Nat) (ao : Option Addr) (c cap : Nat), i ≤ M ∧ gk = M - i ∧ s20 = .int .i64 ((i : Int)) ∧ s8 = .slice ao c cap ∧ c = (mkL bs (2 * i)).length ∧ OwnW wr (w.heap.size + 1) 140 2 ao c cap (mkV (mkL bs (2 * i))) ∧ BlkM wr w.heap.size (List.replicate (k * 2) 0) ∧ Below w.heap.size w wr
def AutIn (w : World) (bs : List Bool) (k i gk : Nat) (s8 s27 : Value) (wr : World) : Prop :=
  ∃ (q : Nat) (ao : Option Addr) (c cap : Nat), q ≤ 2 ∧ gk = 2 - q ∧ s27 = .int .i64 ((q : Int)) ∧ s8 = .slice ao c cap ∧ c = (mkL bs (2 * i + q)).length ∧ OwnW wr (w.heap.size + 1) 140 2 ao c cap (mkV (mkL bs (2 * i + q))) ∧ BlkM wr w.heap.size (List.replicate (k * 2) 0) ∧ Below w.heap.size w wr
set_option maxRecDepth 100000 in
set_option maxHeartbeats 3200000 in
theorem flx_automatic (k m cap : Nat) (ba : Option Addr) (bs : List Bool) (f : Int) (hk : k ≤ 30) (hm : m ≤ 100) (hf : lenB f = true) (w : World) (hbs : bs.length = m * 2) (hr : RowV w ba m 2 (bools bs)) :
    Calls Try.prog 66 #[.int .i64 ((k : Int)), .slice ba m cap, .int .i64 f] w fun e w' =>
      e = .returned (.slice (some ⟨w.heap.size, 0, none⟩) k k) ∧ BlkM w' w.heap.size (mgF bs k f) ∧ Below w.heap.size w w' := by
  obtain ⟨i0, hi, hz0, hz1, hz2⟩ := info_parts (show (Try.prog.info? 66).map (fun i => (i.zero, i.size, i.bytes)) = some (some (.agg #[.int .i64 0, .int .i64 0]), 2, 16) by kernel_rfl)
  obtain ⟨j0, ji, jz0, jz1, jz2⟩ := info_parts (show (Try.prog.info? 140).map (fun i => (i.zero, i.size, i.bytes)) = some (some (.agg #[.int .i64 0, .int .i64 0]), 2, 16) by kernel_rfl)
  obtain ⟨Q, eQ⟩ : ∃ Q : Ending → World → Prop, Q = fun e w' => e = .returned (.slice (some ⟨w.heap.size, 0, none⟩) k k) ∧ BlkM w' w.heap.size (mgF bs k f) ∧ Below w.heap.size w w' := ⟨_, rfl⟩
  rw [← eQ]
  have EQ := Lib.hid eQ
  have HR := Lib.hid hr
  obtain ⟨M, eM⟩ : ∃ M, M = min k m := ⟨_, rfl⟩
  have hmn : min (k : Int) (m : Int) = (M : Int) := by omega
  have hMk : M ≤ k := by omega
  have hMm : M ≤ m := by omega
  have EM := Lib.hid eM
  clear eQ hr eM
  have ib0 := idx_b0
  have ib1 := idx_b1
  go_enter Try.func66, Try.ntmps66
  go_wp2_with (at_make; refine wpList_make_full _ rfl _ _ 62 rfl w.heap.size 66 i0 (.agg #[.int .i64 0, .int .i64 0]) 2 Try.underlying62 hi hz0 hz1 _ _ _ _ k rfl rfl rfl rfl ?b2 ?b3 ?b4 ?_)
  case b2 => rw [hz2]; omega
  case b3 => unfold maxLen; omega
  case b4 => exact Nat.le_refl _
  intro w1 hown hgr
  have hB : Below w.heap.size w w1 := (Below.refl _ w).grown hgr (Nat.le_refl _) (fun _ h => by cases h)
  have hs1 : w.heap.size < w1.heap.size := (World.ownsRow.lt hown w.heap.size (by simp [Value.ownBlock])).2
  have t7 : BlkM w1 w.heap.size (List.replicate (k * 2) 0) := BlkM.made hown
  clear hown hgr
  go_wp2_with fail
  go_loopg [8, 20] M (fun gk s8 s20 wr => AutOut w bs k M gk s8 s20 wr)
  case atStart => exact ⟨0, none, 0, 0, by omega, by omega, rfl, rfl, rfl, OwnW.nil _ _ _ _, t7, hB⟩
  case round =>
    clear t7 hB hs1
    obtain ⟨i, ao, c, cp, hi1, rfl, rfl, rfl, hc, ho, t7, hB⟩ := hrel
    by_cases hik : i < M
    · have ix : (i : Int) < (M : Int) := by omega
      have ixm : (i : Int) < (m : Int) := by omega
      obtain ⟨g, off, rfl, hg1, hcs⟩ := (HR.out.below hB).at (show i < m by omega)
      have c0 := hcs 0 (by omega)
      have c1 := hcs 1 (by omega)
      rw [bools_get bs _ (by omega)] at c0 c1
      obtain ⟨x0, ex0⟩ : ∃ x, bs.getD (i * 2 + 0) false = x := ⟨_, rfl⟩
      obtain ⟨x1, ex1⟩ : ∃ x, bs.getD (i * 2 + 1) false = x := ⟨_, rfl⟩
      rw [ex0, Nat.add_zero] at c0
      rw [ex1] at c1
      have EX0 := Lib.hid ex0
      have EX1 := Lib.hid ex1
      clear ex0 ex1 hcs
      go_wp2_with fail
      go_loopg [8, 27] 2 (fun gk s8 s27 wr => AutIn w bs k i gk s8 s27 wr)
      case atStart => exact ⟨0, ao, c, cp, by omega, rfl, rfl, rfl, hc, ho, t7, hB⟩
      clear hc ho t7 hB c0 c1
      case round =>
        obtain ⟨q, ao, c, cp, hq, rfl, rfl, rfl, hc, ho, t7, hB⟩ := hrel
        rcases (by omega : q = 0 ∨ q = 1 ∨ q = 2) with rfl | rfl | rfl
        · have hxq := EX0.out
          have hcl := mkL_len bs (2 * i + 0)
          rw [← hc] at hcl
          have hcm : c ≤ 200 := by omega
          clear hcl
          cases x0
          · have e1 := mkL_no (bs := bs) (p := 2 * i + 0) (by rw [← hxq]; congr 1; omega)
            have E1 := Lib.hid e1
            clear e1 hxq
            go_wp2_with fail
            go_roundg 1
            case measure => omega
            case rel => exact ⟨1, ao, c, cp, by omega, by omega, rfl, rfl, by rw [← Nat.add_assoc (2 * i) 0 1, E1.out]; exact hc, by rw [← Nat.add_assoc (2 * i) 0 1, E1.out]; exact ho, t7, hB⟩
          · have e1 := mkL_yes (bs := bs) (p := 2 * i + 0) (by rw [← hxq]; congr 1; omega)
            have E1 := Lib.hid e1
            have HC := Lib.hid hc
            have hszr := hB.size
            clear e1 hxq hc
            go_wp2_with (at_builtin; refine wpList_append_own _ rfl _ _ 139 rfl (w.heap.size + 1) 140 j0 (.agg #[.int .i64 0, .int .i64 0]) 2 16 Try.underlying139 ji jz0 jz1 jz2 rfl (by decide) _ _ _ rfl (ho.alloc _) ⟨wr.heap.size, 0, none⟩ 1 1 [.int .i64 ((i : Int)), .int .i64 0] rfl rfl ?c1 ?c2 ?c3 ?c4 ?c5 ?_)
            case c1 =>
              intro j u hj
              match j, hj with
              | 0, hj => simp at hj; subst hj; simp [Addr.add]
              | 1, hj => simp at hj; subst hj; simp [Addr.add]
            case c2 => intro u hu; simp at hu; rcases hu with rfl | rfl <;> rfl
            case c3 => unfold maxLen; omega
            case c4 => omega
            case c5 => simp; omega
            intro v' w2 hown' hgrow _
            obtain ⟨ao', cap', rfl, ho', hk2, hB'⟩ := OwnW.grown ho hown' hgrow (Nat.succ_le_of_lt t7.lt)
            replace hB := hB' _ _ (Nat.le_succ _) hB
            replace t7 : BlkM w2 w.heap.size (List.replicate (k * 2) 0) := hk2 _ _ _ t7 (fun e => by have := (ho.ge e).1; omega)
            clear hown' hgrow hB' hk2 ho hszr
            go_wp2_with fail
            go_roundg 1
            case measure => omega
            case rel => exact ⟨1, ao', c + 1, cap', by omega, by omega, rfl, rfl, by rw [← Nat.add_assoc (2 * i) 0 1, E1.out, List.length_append, ← HC.out]; rfl, by rw [← Nat.add_assoc (2 * i) 0 1, E1.out, mkV_app, mkV_one (p := 2 * i + 0) (i := i) (q := 0) (by omega) (by omega)]; exact ho', t7, hB⟩
        · have hxq := EX1.out
          have hcl := mkL_len bs (2 * i + 1)
          rw [← hc] at hcl
          have hcm : c ≤ 200 := by omega
          clear hcl
          cases x1
          · have e1 := mkL_no (bs := bs) (p := 2 * i + 1) (by rw [← hxq]; congr 1; omega)
            have E1 := Lib.hid e1
            clear e1 hxq
            go_wp2_with fail
            go_roundg 0
            case measure => omega
            case rel => exact ⟨2, ao, c, cp, by omega, by omega, rfl, rfl, by rw [← Nat.add_assoc (2 * i) 1 1, E1.out]; exact hc, by rw [← Nat.add_assoc (2 * i) 1 1, E1.out]; exact ho, t7, hB⟩
          · have e1 := mkL_yes (bs := bs) (p := 2 * i + 1) (by rw [← hxq]; congr 1; omega)
            have E1 := Lib.hid e1
            have HC := Lib.hid hc
            have hszr := hB.size
            clear e1 hxq hc
            go_wp2_with (at_builtin; refine wpList_append_own _ rfl _ _ 139 rfl (w.heap.size + 1) 140 j0 (.agg #[.int .i64 0, .int .i64 0]) 2 16 Try.underlying139 ji jz0 jz1 jz2 rfl (by decide) _ _ _ rfl (ho.alloc _) ⟨wr.heap.size, 0, none⟩ 1 1 [.int .i64 ((i : Int)), .int .i64 1] rfl rfl ?c1 ?c2 ?c3 ?c4 ?c5 ?_)
            case c1 =>
              intro j u hj
              match j, hj with
              | 0, hj => simp at hj; subst hj; simp [Addr.add]
              | 1, hj => simp at hj; subst hj; simp [Addr.add]
            case c2 => intro u hu; simp at hu; rcases hu with rfl | rfl <;> rfl
            case c3 => unfold maxLen; omega
            case c4 => omega
            case c5 => simp; omega
            intro v' w2 hown' hgrow _
            obtain ⟨ao', cap', rfl, ho', hk2, hB'⟩ := OwnW.grown ho hown' hgrow (Nat.succ_le_of_lt t7.lt)
            replace hB := hB' _ _ (Nat.le_succ _) hB
            replace t7 : BlkM w2 w.heap.size (List.replicate (k * 2) 0) := hk2 _ _ _ t7 (fun e => by have := (ho.ge e).1; omega)
            clear hown' hgrow hB' hk2 ho hszr
            go_wp2_with fail
            go_roundg 0
            case measure => omega
            case rel => exact ⟨2, ao', c + 1, cap', by omega, by omega, rfl, rfl, by rw [← Nat.add_assoc (2 * i) 1 1, E1.out, List.length_append, ← HC.out]; rfl, by rw [← Nat.add_assoc (2 * i) 1 1, E1.out, mkV_app, mkV_one (p := 2 * i + 1) (i := i) (q := 1) (by omega) (by omega)]; exact ho', t7, hB⟩
        · have e2 : 2 * i + 2 = 2 * (i + 1) := by omega
          rw [e2] at hc ho
          go_wp2_with fail
          go_roundg (M - (i + 1))
          case measure => omega
          case rel => exact ⟨i + 1, ao, c, cp, by omega, rfl, by go_num, rfl, hc, ho, t7, hB⟩
    · obtain rfl : i = M := by omega
      have ix : ¬ (i : Int) < (i : Int) := by omega
      have eP : mkL bs (2 * i) = mkL bs (2 * k) := by
        have hMM := EM.out
        by_cases e : i = k
        · rw [e]
        · rw [mkL_end bs (m := 2 * i) (by omega) (2 * k) (by omega)]
      rw [eP] at hc ho
      have hcl := mkL_len bs (2 * k)
      rw [← hc] at hcl
      have FIN : ∀ W : World, BlkM W w.heap.size (List.replicate (k * 2) 0) → c = 0 ∨ f ≤ 0 → BlkM W w.heap.size (mgF bs k f) := by
        intro W h h0
        unfold mgF
        by_cases hf0 : f ≤ 0
        · rw [if_pos hf0]; exact h
        · rw [if_neg hf0, ← hc]
          rcases h0 with h0 | h0
          · rw [h0]; exact h
          · exact absurd h0 hf0
      by_cases hc0 : c = 0
      · have FF := Lib.hid (FIN _ t7 (.inl hc0))
        have T0 := Lib.hid t7
        have hci : (c : Int) = 0 := by omega
        clear FIN ho t7 hc eP
        go_wp2_with fail
        all_goals
          rw [EQ.out]
          exact ⟨rfl, FF.out, hB⟩
      · have hci : ¬ (c : Int) = 0 := by omega
        by_cases hf0 : f ≤ 0
        · have FF := Lib.hid (FIN _ t7 (.inr hf0))
          clear FIN ho t7 hc eP
          go_wp2_with fail
          all_goals
            rw [EQ.out]
            exact ⟨rfl, FF.out, hB⟩
        · clear FIN eP
          have EV := fun W => flx_even_at f ((c : Nat) : Int) c rfl (by omega) hf W
          have hmg : mgF bs k f = mgL (mkL bs (2 * k)) (evL f c) (k * 2) c := by unfold mgF; rw [if_neg hf0, ← hc]
          have hml : ∀ q, q ∈ mkL bs (2 * k) → q < 2 * k := fun q h => mkL_lt h
          obtain ⟨ms, ems⟩ : ∃ ms, mkL bs (2 * k) = ms := ⟨_, rfl⟩
          obtain ⟨ps, eps⟩ : ∃ ps, evL f c = ps := ⟨_, rfl⟩
          rw [eps] at EV hmg
          rw [ems] at hmg ho hc hml
          have HC := Lib.hid hc
          have HMG := Lib.hid hmg
          have HML := Lib.hid hml
          have hr0 := OwnW.row ho
          have hne0 : ∀ g off, ao = some ⟨g, off, none⟩ → g ≠ w.heap.size := fun g off e => by have := OwnW.from ho g off e; omega
          have HNE := Lib.hid hne0
          have hw0 := t7.lt
          clear hc hmg hml hne0 ems eps ho
          go_wp2_with fail
          refine (EV _).mono ?_
          rintro e w4 ⟨ap, cq, rfl, hp, _, _, hfr, hb⟩
          replace t7 := t7.below hb
          replace hB := hB.trans (hb.mono hB.size)
          replace hr0 := hr0.below hb
          have hfr2 : ∀ g off, ap = some ⟨g, off, none⟩ → g ≠ w.heap.size := fun g off e => by have := hfr g off e; omega
          have HFR := Lib.hid hfr2
          clear hb hfr hfr2 EV hw0
          go_wp2_with fail
          go_loopg [53] c (fun gk s53 wr => ∃ (j : Nat), j ≤ c ∧ gk = c - j ∧ s53 = .int .i64 ((j : Int)) ∧ BlkM wr w.heap.size (mgL ms ps (k * 2) j) ∧ RowI wr ap c ps ∧ RowV wr ao c 2 (mkV ms) ∧ Below w.heap.size w wr)
          case atStart => exact ⟨0, by omega, by omega, rfl, t7, hp, hr0, hB⟩
          case round =>
            clear t7 hp hr0 hB
            obtain ⟨j, hj, rfl, rfl, t7, hp, hr0, hB⟩ := hrel
            by_cases hjk : j < c
            · have ix : (j : Int) < (c : Int) := by omega
              obtain ⟨g1, off1, rfl, hg1, hcp⟩ := hp.at hjk
              obtain ⟨g2, off2, rfl, hg2, hcs⟩ := hr0.at hjk
              have hn1 : g1 ≠ w.heap.size := HFR.out g1 off1 rfl
              have hn2 : g2 ≠ w.heap.size := HNE.out g2 off2 rfl
              have hms := mkV_get ms j (by rw [← HC.out]; exact hjk)
              have c0 := (hcs 0 (by omega)).trans hms.1
              have c1 := (hcs 1 (by omega)).trans hms.2
              rw [Nat.add_zero] at c0
              have hmk := HML.out (ms.getD j 0) (by rw [HC.out] at hjk; simp [List.getD, hjk])
              have es : mgL ms ps (k * 2) (j + 1) = (mgL ms ps (k * 2) j).set (ms.getD j 0) (ps.getD j 0) := rfl
              obtain ⟨x, ex⟩ : ∃ x, ps.getD j 0 = x := ⟨_, rfl⟩
              obtain ⟨p, ep⟩ : ∃ p, ms.getD j 0 = p := ⟨_, rfl⟩
              rw [ex] at hcp es
              rw [ep] at c0 c1 hmk es
              obtain ⟨pi, epi⟩ : ∃ i, p / 2 = i := ⟨_, rfl⟩
              obtain ⟨pq, epq⟩ : ∃ i, p % 2 = i := ⟨_, rfl⟩
              have hpp : pi * 2 + pq = p := by omega
              rw [epi] at c0
              rw [epq] at c1
              have hpi : (pi : Int) < (k : Int) := by omega
              have hpq : (pq : Int) < 2 := by omega
              have hnew := t7.put p x
              rw [← es] at hnew
              have hfz := t7.free p
              have hco := t7.cell (i := p) (by rw [mgL_len]; omega)
              obtain ⟨y, ey⟩ : ∃ y, (mgL ms ps (k * 2) j).getD p 0 = y := ⟨_, rfl⟩
              rw [ey] at hco
              have hpn := hp.but (But.set (b := w.heap.size) wr p (.int .i64 x)) (fun g' off' e => by
                obtain ⟨rfl, rfl⟩ : g1 = g' ∧ off1 = off' := by simpa using e
                exact hn1)
              have hrn := hr0.but (But.set (b := w.heap.size) wr p (.int .i64 x)) (fun g' off' e => by
                obtain ⟨rfl, rfl⟩ : g2 = g' ∧ off2 = off' := by simpa using e
                exact hn2)
              have hB2 := hB.setCell (p := ⟨w.heap.size, p, none⟩) (Nat.le_refl _) (.int .i64 x)
              rw [← hpp] at hfz hco hnew hpn hrn hB2
              have HN := Lib.hid hnew
              have HP2 := Lib.hid hpn
              have HR2 := Lib.hid hrn
              have HB2 := Lib.hid hB2
              clear hcs hms ex ey ep epi epq hpp es hnew hpn hrn hB2 hp hr0 t7 hB
              go_wp2_with fail
              go_region
              all_goals
                go_wp2_with fail
                go_roundg (c - (j + 1))
                case measure => omega
                case rel => exact ⟨j + 1, by omega, rfl, by go_num, Blk.drew HN.out, RowI.drew HP2.out, RowV.drew HR2.out, HB2.out.drew⟩
            · obtain rfl : j = c := by omega
              have ix : ¬ (j : Int) < (j : Int) := by omega
              have FF := Lib.hid t7
              clear t7 hp hr0
              go_wp2_with fail
              all_goals
                rw [EQ.out]
                exact ⟨rfl, by rw [HMG.out]; exact FF.out, hB⟩
end Go.Proofs.Ythofammjbicogaa
namespace Go.Proofs.Ythofammjbicogaa
open Go.RowKit
set_option linter.unusedSimpArgs false
set_option linter.unusedVariables false

theorem eq_arr2 (a b a' b' : Int) (w : World) : (Op.equalIn 10000 66 (.agg #[.int .i64 a, .int .i64 b]) (.agg #[.int .i64 (a'), .int .i64 (b')])).run Try.prog w = .ok (a == a' && b == b') w := by
  have u3 := Try.underlying2
  have a3 := Try.isAgg2
  have z3 := Try.sizeOf2
  rw [show (10000 : Nat) = 9999 + 1 from rfl, Op.equalIn]
  simp only [Sem.run_bind, run_underlying Try.underlying66, Result.andThen_ok]
  simp only [Std.Legacy.Range.forIn_eq_forIn_range', Std.Legacy.Range.size, Nat.sub_zero, Nat.add_sub_cancel, Nat.div_one, List.range'_succ, List.range'_zero, List.forIn_cons, List.forIn_nil]
  go_simp
  by_cases h1 : a = a' <;> by_cases h2 : b = b' <;> simp [h1, h2]
/-- Is there a number that isn't 0? -/
def someB (xs : List Int) (n : Nat) : Bool := decide (∃ i, i < n ∧ xs.getD i 0 ≠ 0)
set_option maxRecDepth 100000 in
set_option maxHeartbeats 1600000 in
theorem flx_spent (g k : Nat) (xs : List Int) (hl : xs.length = k * 2) (hk : k ≤ 1000) (w : World) (h : BlkM w g xs) : Calls Try.prog 67 #[.slice (some ⟨g, 0, none⟩) k k] w fun e w' =>
    e = .returned (.bool (someB xs (k * 2))) ∧ Below w.heap.size w w' := by
  have H := Lib.hid h
  have eqA := eq_arr2
  obtain ⟨b, eb⟩ : ∃ b, someB xs (k * 2) = b := ⟨_, rfl⟩
  rw [eb]
  have EB := Lib.hid eb
  clear h eb
  go_enter Try.func67, Try.ntmps67
  go_wp2_with fail
  go_loopg [7] k (fun gk s7 wr => ∃ j : Nat, j ≤ k ∧ gk = k - j ∧ s7 = .int .i64 ((j : Int)) ∧ (∀ i, i < j * 2 → xs.getD i 0 = 0) ∧ Below w.heap.size w wr)
  case atStart => exact ⟨0, by omega, by omega, rfl, fun i hi => by omega, Below.refl _ _⟩
  case round =>
    obtain ⟨j, hj, rfl, rfl, hz, hB⟩ := hrel
    have HZ := Lib.hid hz
    clear hz
    have hsz := hB.size
    by_cases hjk : j < k
    · have ix : (j : Int) < (k : Int) := by omega
      have hkk := H.out.below hB
      have c0 := hkk.cell (i := j * 2) (by omega)
      have c1 := hkk.cell (i := j * 2 + 1) (by omega)
      obtain ⟨x, ex⟩ : ∃ x, xs.getD (j * 2) 0 = x := ⟨_, rfl⟩
      obtain ⟨y, ey⟩ : ∃ y, xs.getD (j * 2 + 1) 0 = y := ⟨_, rfl⟩
      rw [ex] at c0
      rw [ey] at c1
      have EX := Lib.hid ex
      have EY := Lib.hid ey
      clear hkk ex ey
      by_cases hxy : x = 0 ∧ y = 0
      · obtain ⟨rfl, rfl⟩ := hxy
        have EZ : ∀ i, i < (j + 1) * 2 → xs.getD i 0 = 0 := fun i hi => by
          rcases (by omega : i < j * 2 ∨ i = j * 2 ∨ i = j * 2 + 1) with h | rfl | rfl
          · exact HZ.out i h
          · exact EX.out
          · exact EY.out
        have EZ := Lib.hid EZ
        go_wp2_with fail
        go_roundg (k - (j + 1))
        case measure => omega
        case rel => exact ⟨j + 1, by omega, rfl, by go_num, EZ.out, (by repeat' (first | (with_reducible exact Below.refl _ _) | (with_reducible assumption) | (with_reducible refine below_alloc ?_ _ ?_) | (with_reducible refine below_set _ ?_ ?_) | (with_reducible refine Below.drew ?_) | (with_reducible refine below_dN ?_ _) | (apply below_thenA; assumption) | omega | (simp; done) | (simp; omega) | (simp [*]; done)))⟩
      · have hne : (x == 0 && y == 0) = false := by
          simp
          intro h1 h2
          exact hxy ⟨h1, h2⟩
        have hbt : b = true := by
          rw [← EB.out]
          unfold someB
          rw [decide_eq_true_iff]
          by_cases hx0 : x = 0
          · exact ⟨j * 2 + 1, by omega, fun e => hxy ⟨hx0, by rw [← EY.out, e]⟩⟩
          · exact ⟨j * 2, by omega, fun e => hx0 (by rw [← EX.out, e])⟩
        have BT := Lib.hid hbt
        clear hbt hxy
        go_wp2_with fail
        go_ret
        exact ⟨by rw [BT.out]; rfl, (by repeat' (first | (with_reducible exact Below.refl _ _) | (with_reducible assumption) | (with_reducible refine below_alloc ?_ _ ?_) | (with_reducible refine below_set _ ?_ ?_) | (with_reducible refine Below.drew ?_) | (with_reducible refine below_dN ?_ _) | (apply below_thenA; assumption) | omega | (simp; done) | (simp; omega) | (simp [*]; done)))⟩
    · obtain rfl : j = k := by omega
      have ix : ¬ (j : Int) < (j : Int) := by omega
      have hbt : b = false := by
        rw [← EB.out]
        unfold someB
        rw [decide_eq_false_iff_not]
        rintro ⟨i, h1, h2⟩
        exact h2 (HZ.out i h1)
      have BT := Lib.hid hbt
      clear hbt
      go_wp2_with fail
      go_ret
      exact ⟨by rw [BT.out]; rfl, hB⟩
end Go.Proofs.Ythofammjbicogaa
namespace Go.Proofs.Ythofammjbicogaa
open Go.RowKit
set_option linter.unusedSimpArgs false
set_option linter.unusedVariables false

/-- copy, as one step of a region that draws: what else stood stays. -/
theorem wp_copy_but {P : Program} {o : Oper} {a : Act} (w : World) {K : Act → World → Prop} {Q : Exit → Act → World → Prop} (d s : Operand) (dT sT : TypeId)
    (ho : o.op = .call { callee := .builtin .copy, args := #[d, s], argTypes := #[dT, sT] }) (elem : TypeId) (hu : P.underlying dT = some (.slice elem)) (hsz : (P.info? elem).map (·.size) = some 1)
    (dp sp : Option Addr) (dLen dCap sLen sCap : Nat) (hd : a.eval d = .slice dp dLen dCap) (hs : a.eval s = .slice sp sLen sCap)
    (g off : Nat) (cur : List Value) (t : TypeId) (hg : w.heap[g]? = some (.cells cur.toArray t (0, 0))) (cs : List Value) (hn : cs.length = Nat.min sLen dLen)
    (hpos : 0 < cs.length → dp = some ⟨g, off, none⟩ ∧ ∃ ad, sp = some ad ∧ ∀ j v, cs[j]? = some v → w.cell? (ad.add j) = some v)
    (hfit : off + cs.length ≤ cur.length) (h1 : ∀ v ∈ cs, v.oneCell' = true)
    (h : ∀ w', w'.heap[g]? = some (.cells (splice cur off cs).toArray t (0, 0)) → But g w w' → K (a.put o.dst (goInt cs.length)) w') :
    Oper.wp P o a w K Q := by
  by_cases h0 : cs.length = 0
  · obtain rfl : cs = [] := List.eq_nil_of_length_eq_zero h0
    have hrun := run_copy_none (P := P) w dT sT o.type elem dp sp dLen dCap sLen sCap hu hsz (by simpa using hn.symm)
    unfold Oper.wp
    simp [execOp, ho, resolve, invoke, builtin, hd, hs, hrun, Result.andThen]
    exact h w (show _ = _ by simpa [splice] using hg) ⟨rfl, rfl, rfl, Nat.le_refl _, fun _ _ _ => rfl⟩
  · obtain ⟨rfl, ad, rfl, hsrc⟩ := hpos (by omega)
    have hrun := run_copy_row (P := P) w dT sT o.type elem g off dLen dCap ad sLen sCap cur.toArray t cs hu hsz hg hn hsrc (by simpa using hfit) h1
    unfold Oper.wp
    simp [execOp, ho, resolve, invoke, builtin, hd, hs, hrun, Result.andThen]
    exact h _ (show _ = _ by simpa [splice] using setRow_heap w g _ _ t _ hg) ⟨rfl, rfl, rfl, by simp, fun k _ hk => setRow_other w g k _ (fun e => hk e)⟩
theorem BlkI.zeros_put (w : World) (n i : Nat) (y : Int) : BlkI (w.alloc (.cells ((madeCells #[.int .i64 0] n).setIfInBounds i (.int .i64 y)) 2)) w.heap.size ((List.replicate n 0).set i y) := by
  have e : (i64s ((List.replicate n 0).set i y)).toArray = (madeCells #[.int .i64 0] n).setIfInBounds i (.int .i64 y) := by
    apply Array.ext'
    rw [Array.toList_setIfInBounds, toList_madeCells_one]
    simp [i64s, List.map_set]
  unfold BlkI
  rw [e]
  exact Blk.new w _ _ _ rfl
def zerL (n : Nat) : List Int := List.replicate (n + 1) 0
/-- Spaces by the way. -/
def spL (f : Int) (n : Nat) (way : Int) : List Int :=
  if way = 2 then (zerL n).set 0 f
  else if way = 3 ∨ (f ≤ 0 ∧ (way = 5 ∨ way = 6)) then (zerL n).set 0 (f / 2)
  else if way = 4 ∧ 0 < f ∧ 1 < n then 0 :: evL f (n - 1) ++ [0]
  else if way = 5 then arL (evL f (2 * n)) n (2 * n)
  else if way = 6 then evL f (n + 1)
  else zerL n
def SpOut (f : Int) (n : Nat) (L : List Int) (w : World) (e : Ending) (w' : World) : Prop :=
  e = .returned (.slice (some ⟨w.heap.size, 0, none⟩) (n + 1) (n + 1)) ∧ BlkI w' w.heap.size L ∧ Below w.heap.size w w'
set_option maxRecDepth 100000 in
set_option maxHeartbeats 3200000 in
theorem flx_plain (f way : Int) (n : Nat) (hn : 1 ≤ n) (hn2 : n ≤ 500) (hf : lenB f = true) (w : World) (L : List Int)
    (h : way = 2 ∧ L = (zerL n).set 0 f ∨ (way = 3 ∨ f ≤ 0 ∧ (way = 5 ∨ way = 6)) ∧ L = (zerL n).set 0 (f / 2) ∨ (way ≠ 2 ∧ way ≠ 3 ∧ way ≠ 4 ∧ way ≠ 5 ∧ way ≠ 6 ∨ way = 4 ∧ f ≤ 0 ∨ way = 4 ∧ n ≤ 1) ∧ L = zerL n) :
    Calls Try.prog 69 #[.int .i64 f, .int .i64 ((n : Int)), .int .i64 way] w (SpOut f n L w) := by
  obtain ⟨i0, hi, hz0, hz1, hz2⟩ := info_parts (show (Try.prog.info? 2).map (fun i => (i.zero, i.size, i.bytes)) = some (some (.int .i64 0), 1, 8) by kernel_rfl)
  obtain ⟨Q, eQ⟩ : ∃ Q : Ending → World → Prop, Q = SpOut f n L w := ⟨_, rfl⟩
  rw [← eQ]
  have EQ := Lib.hid eQ
  have H := Lib.hid h
  clear eQ h
  have t7 := BlkI.zeros w (n + 1)
  have hB : Below w.heap.size w (w.alloc (.cells (madeCells #[.int .i64 0] (n + 1)) 2)) := (by repeat' (first | (with_reducible exact Below.refl _ _) | (with_reducible assumption) | (with_reducible refine below_alloc ?_ _ ?_) | (with_reducible refine below_set _ ?_ ?_) | (with_reducible refine Below.drew ?_) | (with_reducible refine below_dN ?_ _) | (apply below_thenA; assumption) | omega | (simp; done) | (simp; omega) | (simp [*]; done)))
  have c0 := t7.cell (i := 0) (by simp)
  have c0 : (w.alloc (.cells (madeCells #[.int .i64 0] (n + 1)) 2)).cell? ⟨w.heap.size, 0, none⟩ = some (.int .i64 0) := by rw [c0]; rfl
  have f0 := t7.free 0
  have T := Lib.hid t7
  have hs0 : ∀ y, BlkI (w.alloc (.cells ((madeCells #[.int .i64 0] (n + 1)).setIfInBounds 0 (.int .i64 y)) 2)) w.heap.size ((zerL n).set 0 y) := fun y => BlkI.zeros_put w (n + 1) 0 y
  have hB1 : ∀ y, Below w.heap.size w (w.alloc (.cells ((madeCells #[.int .i64 0] (n + 1)).setIfInBounds 0 (.int .i64 y)) 2)) := fun y => (by repeat' (first | (with_reducible exact Below.refl _ _) | (with_reducible assumption) | (with_reducible refine below_alloc ?_ _ ?_) | (with_reducible refine below_set _ ?_ ?_) | (with_reducible refine Below.drew ?_) | (with_reducible refine below_dN ?_ _) | (apply below_thenA; assumption) | omega | (simp; done) | (simp; omega) | (simp [*]; done)))
  have HB1 := Lib.hid hB1
  have HS := Lib.hid hs0
  have hnp : (0 : Int) < (n : Int) := by omega
  clear t7 hs0 hB1
  rcases H.out with ⟨rfl, h⟩ | ⟨hw, h⟩ | ⟨hw, h⟩
  · have HL := Lib.hid h
    clear h H
    by_cases hf0 : f ≤ 0
    all_goals
      go_enter Try.func69, Try.ntmps69
      go_wp2_with (at_make; refine wpList_make_row _ rfl _ _ 31 rfl 2 i0 (.int .i64 0) Try.underlying31 hi hz0 hz1 rfl _ _ (n + 1) rfl rfl ?b2 ?b3 ?_)
      case b2 => first | omega | (rw [hz2]; omega)
      case b3 => omega
      rw [EQ.out, HL.out]
      exact ⟨rfl, HS.out f, HB1.out _⟩
  · have HL := Lib.hid h
    clear h H
    rcases hw with rfl | ⟨hf0, rfl | rfl⟩
    · by_cases hf0 : f ≤ 0
      all_goals
        go_enter Try.func69, Try.ntmps69
        go_wp2_with (at_make; refine wpList_make_row _ rfl _ _ 31 rfl 2 i0 (.int .i64 0) Try.underlying31 hi hz0 hz1 rfl _ _ (n + 1) rfl rfl ?b2 ?b3 ?_)
        case b2 => first | omega | (rw [hz2]; omega)
        case b3 => omega
        rw [EQ.out, HL.out]
        exact ⟨rfl, HS.out _, HB1.out _⟩
    all_goals
      go_enter Try.func69, Try.ntmps69
      go_wp2_with (at_make; refine wpList_make_row _ rfl _ _ 31 rfl 2 i0 (.int .i64 0) Try.underlying31 hi hz0 hz1 rfl _ _ (n + 1) rfl rfl ?b2 ?b3 ?_)
      case b2 => first | omega | (rw [hz2]; omega)
      case b3 => omega
      rw [EQ.out, HL.out]
      exact ⟨rfl, HS.out _, HB1.out _⟩
  · have HL := Lib.hid h
    clear h H
    rcases hw with ⟨h2, h3, h4, h5, h6⟩ | ⟨rfl, hf0⟩ | ⟨rfl, hn1⟩
    · by_cases hf0 : f ≤ 0
      all_goals
        go_enter Try.func69, Try.ntmps69
        go_wp2_with (at_make; refine wpList_make_row _ rfl _ _ 31 rfl 2 i0 (.int .i64 0) Try.underlying31 hi hz0 hz1 rfl _ _ (n + 1) rfl rfl ?b2 ?b3 ?_)
        case b2 => first | omega | (rw [hz2]; omega)
        case b3 => omega
        rw [EQ.out, HL.out]
        exact ⟨rfl, T.out, hB⟩
    · go_enter Try.func69, Try.ntmps69
      go_wp2_with (at_make; refine wpList_make_row _ rfl _ _ 31 rfl 2 i0 (.int .i64 0) Try.underlying31 hi hz0 hz1 rfl _ _ (n + 1) rfl rfl ?b2 ?b3 ?_)
      case b2 => first | omega | (rw [hz2]; omega)
      case b3 => omega
      rw [EQ.out, HL.out]
      exact ⟨rfl, T.out, hB⟩
    · have hn1' : ¬ (1 : Int) < (n : Int) := by omega
      by_cases hf0 : f ≤ 0
      all_goals
        go_enter Try.func69, Try.ntmps69
        go_wp2_with (at_make; refine wpList_make_row _ rfl _ _ 31 rfl 2 i0 (.int .i64 0) Try.underlying31 hi hz0 hz1 rfl _ _ (n + 1) rfl rfl ?b2 ?b3 ?_)
        case b2 => first | omega | (rw [hz2]; omega)
        case b3 => omega
        rw [EQ.out, HL.out]
        exact ⟨rfl, T.out, hB⟩
theorem i64s_cell (xs : List Int) : ∀ v ∈ i64s xs, v.oneCell' = true := by
  intro u hu
  unfold i64s at hu
  obtain ⟨x, _, rfl⟩ := List.mem_map.1 hu
  rfl
theorem row_news {w : World} {ao : Option Addr} {k : Nat} {xs : List Int} (h : RowI w ao k xs) (hk : 0 < k) : ∃ ad, ao = some ad ∧ ∀ j v, (i64s xs)[j]? = some v → w.cell? (ad.add j) = some v := by
  obtain ⟨g, off, e, hg, hc⟩ := h.2 hk
  refine ⟨_, e, fun j v hj => ?_⟩
  have hjl : j < (i64s xs).length := (List.getElem?_eq_some_iff.1 hj).1
  have hjk : j < k := by rw [← h.1]; simpa [i64s] using hjl
  have := hc j hjk
  have e2 : (Addr.add ⟨g, off, none⟩ j) = ⟨g, off + j, none⟩ := by simp [Addr.add]
  rw [e2, this, ← hj]
  have hx : j < xs.length := by rw [h.1]; exact hjk
  simp [i64s, List.getD, hx]
theorem i64s_len (xs : List Int) : (i64s xs).length = xs.length := by simp [i64s]
theorem splice_all {α : Type} (L cs : List α) (h : cs.length = L.length) : splice L 0 cs = cs := by
  unfold splice
  rw [List.take_zero, List.nil_append, Nat.zero_add, h, List.drop_length, List.append_nil]
set_option maxRecDepth 100000 in
set_option maxHeartbeats 3200000 in
theorem flx_evenly (f : Int) (n : Nat) (hn : 1 ≤ n) (hn2 : n ≤ 500) (hf : lenB f = true) (h0 : 0 < f) (w : World) :
    Calls Try.prog 69 #[.int .i64 f, .int .i64 ((n : Int)), .int .i64 6] w (SpOut f n (evL f (n + 1)) w) := by
  obtain ⟨i0, hi, hz0, hz1, hz2⟩ := info_parts (show (Try.prog.info? 2).map (fun i => (i.zero, i.size, i.bytes)) = some (some (.int .i64 0), 1, 8) by kernel_rfl)
  obtain ⟨Q, eQ⟩ : ∃ Q : Ending → World → Prop, Q = SpOut f n (evL f (n + 1)) w := ⟨_, rfl⟩
  rw [← eQ]
  have EQ := Lib.hid eQ
  have EV := fun W => flx_even_at f ((n : Int) + 1) (n + 1) (by push_cast; rfl) (by omega) hf W
  obtain ⟨ps, eps⟩ : ∃ ps, evL f (n + 1) = ps := ⟨_, rfl⟩
  rw [eps] at EV
  have EPS := Lib.hid eps
  have hf0 : ¬ f ≤ 0 := by omega
  clear eQ eps
  go_enter Try.func69, Try.ntmps69
  go_wp2_with (at_make; refine wpList_make_row _ rfl _ _ 31 rfl 2 i0 (.int .i64 0) Try.underlying31 hi hz0 hz1 rfl _ _ (n + 1) rfl rfl ?b2 ?b3 ?_)
  case b2 => first | omega | (rw [hz2]; omega)
  case b3 => omega
  have t7 := BlkI.zeros w (n + 1)
  have hB : Below w.heap.size w (w.alloc (.cells (madeCells #[.int .i64 0] (n + 1)) 2)) := (by repeat' (first | (with_reducible exact Below.refl _ _) | (with_reducible assumption) | (with_reducible refine below_alloc ?_ _ ?_) | (with_reducible refine below_set _ ?_ ?_) | (with_reducible refine Below.drew ?_) | (with_reducible refine below_dN ?_ _) | (apply below_thenA; assumption) | omega | (simp; done) | (simp; omega) | (simp [*]; done)))
  refine (EV _).mono ?_
  rintro e w1 ⟨ap, cp, rfl, hp, hc1, hc2, hfr, hb⟩
  replace t7 := t7.below hb
  replace hB := hB.trans (hb.mono hB.size)
  have HP := Lib.hid hp
  have HT := Lib.hid t7
  clear hb hfr hp EV t7
  go_wp2_with (refine wpList_copy_splice rfl _ _ 31 31 rfl 2 Try.underlying31 (by kernel_rfl) (some ⟨w.heap.size, 0, none⟩) ap (n + 1) (n + 1) (n + 1) cp rfl rfl w.heap.size 0 (i64s (List.replicate (n + 1) 0)) 2 HT.out (i64s ps) ?b1 ?b2 ?b3 (i64s_cell _) w.heap.size w hB (Nat.le_refl _) ?_)
  case b1 => rw [i64s_len, HP.out.1]; exact (Nat.min_self _).symm
  case b2 => intro _; have := row_news HP.out (Nat.succ_pos n); first | exact this | exact ⟨rfl, this⟩
  case b3 => rw [i64s_len, i64s_len, HP.out.1, List.length_replicate]; omega
  intro w2 hg2 hB2
  have hg3 : BlkI w2 w.heap.size ps := by
    unfold BlkI Blk
    rw [hg2.out, splice_all _ _ (by rw [i64s_len, i64s_len, HP.out.1, List.length_replicate])]
  have HG3 := Lib.hid hg3
  clear hg2 hg3 hB
  go_wp2_with fail
  rw [EQ.out, EPS.out]
  exact ⟨rfl, HG3.out, hB2⟩
theorem splice_mid (n : Nat) (ps : List Int) (hp : ps.length + 1 = n) : splice (i64s (List.replicate (n + 1) 0)) 1 (i64s ps) = i64s (0 :: ps ++ [0]) := by
  subst hp
  unfold splice
  rw [i64s_len]
  have e1 : (i64s (List.replicate (ps.length + 1 + 1) 0)).take 1 = i64s [0] := rfl
  have e2 : (i64s (List.replicate (ps.length + 1 + 1) 0)).drop (1 + ps.length) = i64s [0] := by
    unfold i64s
    rw [← List.map_drop, List.drop_replicate, show ps.length + 1 + 1 - (1 + ps.length) = 1 by omega]
    rfl
  rw [e1, e2]
  simp [i64s]
def rowC (g n : Nat) (xs : List Int) : Cl := .own (fun v w => ∃ ao cap, v = .slice ao n cap ∧ RowI w ao n xs ∧ ∀ g2 off, ao = some ⟨g2, off, none⟩ → g2 ≠ g) (fun _ _ _ h hb => by obtain ⟨a, c, e, h, h2⟩ := h; exact ⟨a, c, e, h.below hb, h2⟩)
theorem rowC_but {g n k : Nat} {xs : List Int} {vs : Nat → Value} {w w' : World} (h : (rowC g n xs).holds k vs w) (hb : But g w w') : (rowC g n xs).holds k vs w' := by
  obtain ⟨ao, cap, e, h, h2⟩ := h
  exact ⟨ao, cap, e, h.but hb h2, h2⟩
def memC (g : Nat) (xs : List Int) : Cl := .own (fun _ w => BlkI w g xs) (fun _ _ _ h hb => BlkI.below h hb)
set_option maxRecDepth 100000 in
set_option maxHeartbeats 3200000 in
theorem flx_between (f : Int) (n : Nat) (hn : 1 < n) (hn2 : n ≤ 500) (hf : lenB f = true) (h0 : 0 < f) (w : World) :
    Calls Try.prog 69 #[.int .i64 f, .int .i64 ((n : Int)), .int .i64 4] w (SpOut f n (0 :: evL f (n - 1) ++ [0]) w) := by
  obtain ⟨i0, hi, hz0, hz1, hz2⟩ := info_parts (show (Try.prog.info? 2).map (fun i => (i.zero, i.size, i.bytes)) = some (some (.int .i64 0), 1, 8) by kernel_rfl)
  obtain ⟨Q, eQ⟩ : ∃ Q : Ending → World → Prop, Q = SpOut f n (0 :: evL f (n - 1) ++ [0]) w := ⟨_, rfl⟩
  rw [← eQ]
  have EQ := Lib.hid eQ
  obtain ⟨m, em⟩ : ∃ m, n = m + 1 := ⟨n - 1, by omega⟩
  subst em
  rw [show m + 1 - 1 = m by omega] at EQ
  have EV := fun W => flx_even_at f (m : Int) m rfl (by omega) hf W
  obtain ⟨ps, eps⟩ : ∃ ps, evL f m = ps := ⟨_, rfl⟩
  rw [eps] at EV
  have EPS := Lib.hid eps
  have hf0 : ¬ f ≤ 0 := by omega
  have hn1 : (1 : Int) < (m : Int) + 1 := by omega
  have hm1 : (0 : Int) < (m : Int) := by omega
  have hm2 : (1 : Int) ≤ (m : Int) + 1 + 1 := by omega
  have hwm : IntKind.i64.wrap (m : Int) = (m : Int) := by simp [IntKind.wrap, IntKind.bits, IntKind.signed]; omega
  clear eQ eps
  go_enter Try.func69, Try.ntmps69
  go_wp2_with (at_make; refine wpList_make_row _ rfl _ _ 31 rfl 2 i0 (.int .i64 0) Try.underlying31 hi hz0 hz1 rfl _ _ (m + 1 + 1) rfl rfl ?b2 ?b3 ?_)
  case b2 => first | omega | (rw [hz2]; omega)
  case b3 => omega
  have t7 := BlkI.zeros w (m + 1 + 1)
  have hB : Below w.heap.size w (w.alloc (.cells (madeCells #[.int .i64 0] (m + 1 + 1)) 2)) := (by repeat' (first | (with_reducible exact Below.refl _ _) | (with_reducible assumption) | (with_reducible refine below_alloc ?_ _ ?_) | (with_reducible refine below_set _ ?_ ?_) | (with_reducible refine Below.drew ?_) | (with_reducible refine below_dN ?_ _) | (apply below_thenA; assumption) | omega | (simp; done) | (simp; omega) | (simp [*]; done)))
  go_upto_region 14 with (fail)
  rename_i K0 hK0
  refine wp_region_calm (fun w' => Below w.heap.size w w' ∧ w.heap.size < w'.heap.size) [6] (fun w' => BlkI w' w.heap.size (List.replicate (m + 1 + 1) 0)) [Is (.slice (some ⟨w.heap.size, 0, none⟩) (m + 1 + 1) (m + 1 + 1)), Is (.slice (some ⟨w.heap.size, 1, none⟩) (m + 1) (m + 1)), Is (.int .i64 f), Is (.int .i64 ((m : Int) + 1)), Is (.int .i64 ((m : Int))), rowC w.heap.size m ps, memC w.heap.size (0 :: ps ++ [0])] [] (by kernel_rfl) (by kernel_rfl) (by kernel_rfl) (by kernel_rfl) ⟨hB.drew, by simp⟩ t7 ?_ ?_ ?_ ?_ ?_
  · rintro W W' ⟨hBB, hlt⟩ hb
    exact ⟨hBB.trans (hb.mono hBB.size), Nat.lt_of_lt_of_le hlt hb.size⟩
  · intro W W' hB h0 hb; exact BlkI.below h0 hb
  · intro k vs W hk h
    exact absurd hk (by simp)
  · intro Q; clear hK0 t7 hB
    refine ⟨?_, ?_, ?_, ?_, ?_, ?_, ?_, trivial⟩
    · intro vs W hW hW0 hd hne hold K hK hA hL; clear hne hA hL; have hBB := hW.1; have hlt := hW.2; simp only [puts, Act.put, List.setIfInBounds_toArray, List.set_cons_zero, List.set_cons_succ, Nat.zero_add, Nat.reduceAdd] at hK ⊢; clear hd hold; go_simp; exact hK.out rfl _ _ (Below.refl _ _) rfl
    · intro vs W hW hW0 hd hne hold K hK hA hL; clear hne hA hL; have hBB := hW.1; have hlt := hW.2; simp only [puts, Act.put, List.setIfInBounds_toArray, List.set_cons_zero, List.set_cons_succ, Nat.zero_add, Nat.reduceAdd] at hK ⊢; have e0 : vs 0 = _ := hd 0 (by kernel_rfl); clear hd hold; simp only [e0] at hK; go_simp; exact hK.out rfl _ _ (Below.refl _ _) rfl
    · intro vs W hW hW0 hd hne hold K hK hA hL; clear hne hA hL; have hBB := hW.1; have hlt := hW.2; simp only [puts, Act.put, List.setIfInBounds_toArray, List.set_cons_zero, List.set_cons_succ, Nat.zero_add, Nat.reduceAdd] at hK ⊢; clear hd hold; go_simp; exact hK.out rfl _ _ (Below.refl _ _) rfl
    · intro vs W hW hW0 hd hne hold K hK hA hL; clear hne hA hL; have hBB := hW.1; have hlt := hW.2; simp only [puts, Act.put, List.setIfInBounds_toArray, List.set_cons_zero, List.set_cons_succ, Nat.zero_add, Nat.reduceAdd] at hK ⊢; clear hd hold; go_simp; exact hK.out rfl _ _ (Below.refl _ _) rfl
    · intro vs W hW hW0 hd hne hold K hK hA hL; clear hne hA hL; have hBB := hW.1; have hlt := hW.2; simp only [puts, Act.put, List.setIfInBounds_toArray, List.set_cons_zero, List.set_cons_succ, Nat.zero_add, Nat.reduceAdd] at hK ⊢; have e3 : vs 3 = _ := hd 3 (by kernel_rfl); clear hd hold; simp only [e3] at hK; go_simp; exact hK.out rfl _ _ (Below.refl _ _) rfl
    · intro vs W hW hW0 hd hne hold K hK hA hL; clear hne hA hL; have hBB := hW.1; have hlt := hW.2; simp only [puts, Act.put, List.setIfInBounds_toArray, List.set_cons_zero, List.set_cons_succ, Nat.zero_add, Nat.reduceAdd] at hK ⊢; have ea : vs 2 = _ := hd 2 (by kernel_rfl); have eb : vs 4 = _ := hd 4 (by kernel_rfl); clear hd hold; simp only [ea, eb] at hK; go_simp; refine (EV _).mono ?_; (rintro e wx ⟨ap, cp, rfl, hp, hc1, hc2, hfr, hbx⟩); go_simp; exact hK.out rfl _ _ hbx ⟨ap, cp, rfl, hp, fun g2 off e => by have := hfr g2 off e; omega⟩
    · intro vs W hW hW0 hd hne hold K hK hA hL; clear hK hA; have hBB := hW.1; have hlt := hW.2; simp only [puts, Act.put, List.setIfInBounds_toArray, List.set_cons_zero, List.set_cons_succ, Nat.zero_add, Nat.reduceAdd] at hL ⊢; have h0 := hW0 (by kernel_rfl); have ea : vs 1 = _ := hd 1 (by kernel_rfl); have h5 : ∃ ao cap, vs 5 = .slice ao m cap ∧ RowI W ao m ps ∧ ∀ g2 off, ao = some ⟨g2, off, none⟩ → g2 ≠ w.heap.size := hd 5 (by kernel_rfl); obtain ⟨ap, cp, eb, hp, hne5⟩ := h5; clear hd hold; simp only [ea, eb] at hL ⊢; rw [if_pos (show Region.wanted _ _ = true from rfl)]; refine wp_copy_but W (.tmp 42) (.tmp 46) 31 31 rfl 2 Try.underlying31 (by kernel_rfl) (some ⟨w.heap.size, 1, none⟩) ap (m + 1) (m + 1) m cp rfl rfl w.heap.size 1 (i64s (List.replicate (m + 1 + 1) 0)) 2 h0 (i64s ps) (by rw [i64s_len, hp.1]; exact (Nat.min_eq_left (Nat.le_succ m)).symm) (fun _ => ⟨rfl, row_news hp (by omega)⟩) (by rw [i64s_len, i64s_len, hp.1, List.length_replicate]; omega) (i64s_cell _) ?_; intro w4 hg4 hb4; refine hL.out rfl _ _ ⟨hb4.to hBB (Nat.le_refl _) (Nat.le_of_lt hlt), Nat.lt_of_lt_of_le hlt hb4.size⟩ (fun h => absurd h (by decide)) (show BlkI _ _ _ from by unfold BlkI Blk; rw [hg4, splice_mid _ _ (by rw [hp.1])]) ?_; exact claims_keep ⟨.inr is_keep, .inr is_keep, .inr is_keep, .inr is_keep, .inr is_keep, .inr fun h => rowC_but h hb4, .inl rfl, trivial⟩
  · intro va WA hW hV _
    obtain ⟨hBB, hlt⟩ := hW
    have h6 : BlkI WA w.heap.size (0 :: ps ++ [0]) := hV 6 (by decide)
    have H6 := Lib.hid h6
    clear hV h6
    simp only [puts, Act.put, List.setIfInBounds_toArray, List.set_cons_zero, List.set_cons_succ, Nat.zero_add, Nat.reduceAdd]
    refine hK0 _ _ ?_
    clear hK0 t7 hB
    go_wp2_with fail
    rw [EQ.out, EPS.out]
    exact ⟨rfl, H6.out, hBB⟩
theorem flx_spaces (f way : Int) (n : Nat) (hn : 1 ≤ n) (hn2 : n ≤ 500) (hf : lenB f = true) (w : World) :
    Calls Try.prog 69 #[.int .i64 f, .int .i64 ((n : Int)), .int .i64 way] w (SpOut f n (spL f n way) w) := by
  unfold spL
  by_cases h2 : way = 2
  · rw [if_pos h2]; exact flx_plain f way n hn hn2 hf w _ (.inl ⟨h2, rfl⟩)
  rw [if_neg h2]
  by_cases h3 : way = 3 ∨ f ≤ 0 ∧ (way = 5 ∨ way = 6)
  · rw [if_pos h3]; exact flx_plain f way n hn hn2 hf w _ (.inr (.inl ⟨h3, rfl⟩))
  rw [if_neg h3]
  by_cases h4 : way = 4
  · subst h4
    by_cases h : 0 < f ∧ 1 < n
    · rw [if_pos ⟨rfl, h⟩]
      exact flx_between f n h.2 hn2 hf h.1 w
    · rw [if_neg (fun x => h x.2), if_neg (by decide), if_neg (by decide)]
      refine flx_plain f 4 n hn hn2 hf w _ (.inr (.inr ⟨?_, rfl⟩))
      by_cases hf0 : f ≤ 0
      · exact .inr (.inl ⟨rfl, hf0⟩)
      · exact .inr (.inr ⟨rfl, by omega⟩)
  rw [if_neg (fun x => h4 x.1)]
  by_cases h5 : way = 5
  · subst h5
    rw [if_pos rfl]
    exact flx_around f n hn hn2 hf (by omega) w
  rw [if_neg h5]
  by_cases h6 : way = 6
  · subst h6
    rw [if_pos rfl]
    exact flx_evenly f n hn hn2 hf (by omega) w
  rw [if_neg h6]
  exact flx_plain f way n hn hn2 hf w _ (.inr (.inr ⟨.inl ⟨h2, by omega, h4, h5, h6⟩, rfl⟩))
end Go.Proofs.Ythofammjbicogaa
namespace Go.Proofs.Ythofammjbicogaa
set_option linter.unusedSimpArgs false
set_option linter.unusedVariables false

theorem getD_rep (n i : Nat) : (List.replicate n (0 : Int)).getD i 0 = 0 := by
  by_cases h : i < n
  · simp [List.getD, h]
  · simp [List.getD, h]
theorem getD_set (xs : List Int) (i j : Nat) (y : Int) : (xs.set i y).getD j 0 = if i = j ∧ j < xs.length then y else xs.getD j 0 := by
  by_cases e : i = j
  · subst e
    by_cases h : i < xs.length
    · rw [if_pos ⟨rfl, h⟩]; simp [List.getD, h]
    · rw [if_neg (fun x => h x.2), List.set_eq_of_length_le (by omega)]
  · rw [if_neg (fun x => e x.1)]; simp [List.getD, List.getElem?_set_ne e]
theorem pre_rep (n : Nat) : ∀ j, pre (List.replicate n (0 : Int)) j = 0
  | 0 => rfl
  | j + 1 => by
    show pre _ j + _ = _
    rw [pre_rep n j, getD_rep]
    rfl
theorem mkL_sorted (bs : List Bool) : ∀ p, (mkL bs p).Pairwise (· < ·)
  | 0 => by simp [mkL]
  | p + 1 => by
    unfold mkL
    rw [List.pairwise_append]
    refine ⟨mkL_sorted bs p, ?_, ?_⟩
    · split <;> simp
    · intro a ha b hb
      have := mkL_lt ha
      split at hb <;> simp at hb
      omega
theorem mkL_inj (bs : List Bool) (p : Nat) {i j : Nat} (hi : i < j) (hj : j < (mkL bs p).length) : (mkL bs p).getD i 0 < (mkL bs p).getD j 0 := by
  have := List.pairwise_iff_getElem.1 (mkL_sorted bs p) i j (by omega) hj hi
  simpa [List.getD, hj, show i < (mkL bs p).length by omega] using this
theorem mgL_zero {ms : List Nat} {ps : List Int} {N q : Nat} : ∀ j, (∀ i, i < j → ms.getD i 0 ≠ q) → (mgL ms ps N j).getD q 0 = 0
  | 0, _ => getD_rep _ _
  | j + 1, h => by
    show ((mgL ms ps N j).set _ _).getD q 0 = 0
    rw [getD_set, if_neg (fun x => h j (by omega) x.1)]
    exact mgL_zero j (fun i hi => h i (by omega))
theorem mgL_pre (bs : List Bool) (ps : List Int) (P : Nat) : ∀ j, j ≤ (mkL bs P).length → pre (mgL (mkL bs P) ps P j) P = pre ps j
  | 0, _ => pre_rep _ _
  | j + 1, h => by
    have hz : (mgL (mkL bs P) ps P j).getD ((mkL bs P).getD j 0) 0 = 0 := mgL_zero j (fun i hi => by have := mkL_inj bs P hi (show j < _ by omega); omega)
    have hlt : (mkL bs P).getD j 0 < P := mkL_lt (bs := bs) (by simp [List.getD, show j < (mkL bs P).length by omega])
    have e : mgL (mkL bs P) ps P (j + 1) = (mgL (mkL bs P) ps P j).set ((mkL bs P).getD j 0) ((mgL (mkL bs P) ps P j).getD ((mkL bs P).getD j 0) 0 + ps.getD j 0) := by
      rw [hz, Int.zero_add]; rfl
    rw [e, pre_set _ _ _ (by rw [mgL_len]; exact hlt), mgL_pre bs ps P j (by omega), if_pos hlt]
    rfl
theorem mgL_nonneg {ms : List Nat} {ps : List Int} {N : Nat} (h : Nonneg ps) : ∀ j, Nonneg (mgL ms ps N j)
  | 0 => fun i => by show 0 ≤ (List.replicate N (0 : Int)).getD i 0; rw [getD_rep]; decide
  | j + 1 => fun i => by
    show 0 ≤ ((mgL ms ps N j).set _ _).getD i 0
    rw [getD_set]
    split
    · exact h _
    · exact mgL_nonneg h j i
theorem mgF_len (bs : List Bool) (k : Nat) (f : Int) : (mgF bs k f).length = k * 2 := by
  unfold mgF
  split
  · simp
  · exact mgL_len _ _ _ _
theorem mgF_nonneg (bs : List Bool) (k : Nat) (f : Int) : Nonneg (mgF bs k f) := by
  unfold mgF
  split
  · exact fun i => by rw [getD_rep]; decide
  · exact mgL_nonneg (evL_nonneg (by omega)) _
theorem mgF_pre (bs : List Bool) (k : Nat) (f : Int) : pre (mgF bs k f) (k * 2) = if f ≤ 0 ∨ (mkL bs (2 * k)).length = 0 then 0 else f := by
  unfold mgF
  by_cases hf : f ≤ 0
  · rw [if_pos hf, if_pos (.inl hf), pre_rep]
  · rw [if_neg hf, Nat.mul_comm k 2, mgL_pre bs _ (2 * k) _ (Nat.le_refl _)]
    by_cases hc : (mkL bs (2 * k)).length = 0
    · rw [if_pos (.inr hc), hc]; rfl
    · rw [if_neg (by intro x; rcases x with x | x; exact hf x; exact hc x)]
      exact evL_sum (by omega)
theorem mgF_le (bs : List Bool) (k : Nat) (f : Int) {q : Nat} (hq : q ≤ k * 2) : 0 ≤ pre (mgF bs k f) q ∧ (pre (mgF bs k f) q = 0 ∨ 0 < f ∧ pre (mgF bs k f) q ≤ f) := by
  have h1 := mgF_pre bs k f
  have h2 := pre_mono (mgF_nonneg bs k f) hq
  have h3 := pre_nonneg (mgF_nonneg bs k f) q
  refine ⟨h3, ?_⟩
  split at h1
  · left; omega
  · right; omega
theorem mgF_some (bs : List Bool) (k : Nat) (f : Int) : someB (mgF bs k f) (k * 2) = decide (0 < f ∧ (mkL bs (2 * k)).length ≠ 0) := by
  have h1 := mgF_pre bs k f
  by_cases h : f ≤ 0 ∨ (mkL bs (2 * k)).length = 0
  · rw [if_pos h] at h1
    have e : decide (0 < f ∧ (mkL bs (2 * k)).length ≠ 0) = false := by
      rw [decide_eq_false_iff_not]; omega
    rw [e]
    unfold someB
    rw [decide_eq_false_iff_not]
    rintro ⟨i, hi, h2⟩
    exact h2 (pre_zero (mgF_nonneg bs k f) h1 hi)
  · rw [if_neg h] at h1
    have e : decide (0 < f ∧ (mkL bs (2 * k)).length ≠ 0) = true := by
      rw [decide_eq_true_iff]; omega
    rw [e]
    unfold someB
    rw [decide_eq_true_iff]
    by_cases hx : ∃ i, i < k * 2 ∧ (mgF bs k f).getD i 0 ≠ 0
    · exact hx
    · exfalso
      have hz : ∀ q, q ≤ k * 2 → pre (mgF bs k f) q = 0 := by
        intro q
        induction q with
        | zero => intro _; rfl
        | succ q ih =>
          intro hq
          show pre _ q + _ = 0
          rw [ih (by omega)]
          by_cases h2 : (mgF bs k f).getD q 0 = 0
          · rw [h2]; rfl
          · exact absurd ⟨q, by omega, h2⟩ hx
      have := hz (k * 2) (Nat.le_refl _)
      omega
/-- Sizes with their margins. -/
def whAt (xs ms : List Int) (i : Nat) : Int := xs.getD i 0 + ms.getD (i * 2) 0 + ms.getD (i * 2 + 1) 0
def whL (xs ms : List Int) (n : Nat) : List Int := (List.range n).map (whAt xs ms)
theorem whL_succ (xs ms : List Int) (n : Nat) : whL xs ms (n + 1) = whL xs ms n ++ [whAt xs ms n] := by
  unfold whL
  rw [List.range_succ, List.map_append]
  rfl
theorem whL_len (xs ms : List Int) (n : Nat) : (whL xs ms n).length = n := by simp [whL]
theorem whL_get (xs ms : List Int) {n i : Nat} (h : i < n) : (whL xs ms n).getD i 0 = whAt xs ms i := by simp [whL, List.getD, h]
theorem whL_pre (xs ms : List Int) (n : Nat) : ∀ j, j ≤ n → pre (whL xs ms n) j = pre xs j + pre ms (j * 2)
  | 0, _ => rfl
  | j + 1, h => by
    have e1 : pre (whL xs ms n) (j + 1) = pre (whL xs ms n) j + (whL xs ms n).getD j 0 := rfl
    have e2 : pre xs (j + 1) = pre xs j + xs.getD j 0 := rfl
    have e3 : pre ms ((j + 1) * 2) = pre ms (j * 2) + ms.getD (j * 2) 0 + ms.getD (j * 2 + 1) 0 := by rw [show (j + 1) * 2 = j * 2 + 1 + 1 by omega]; rfl
    rw [e1, e2, e3, whL_pre xs ms n j (by omega), whL_get xs ms (by omega)]
    unfold whAt
    omega
theorem pre_set0 (n : Nat) (y : Int) (j : Nat) : pre ((List.replicate (n + 1) (0 : Int)).set 0 y) j = if 0 < j then y else 0 := by
  have := pre_set (List.replicate (n + 1) (0 : Int)) 0 y (by simp) j
  rw [getD_rep, Int.zero_add, pre_rep, Int.zero_add] at this
  exact this
theorem pre_cons (x : Int) (l : List Int) : ∀ j, pre (x :: l) (j + 1) = x + pre l j
  | 0 => by show pre (x :: l) 0 + (x :: l).getD 0 0 = x + pre l 0; simp [pre]
  | j + 1 => by
    show pre (x :: l) (j + 1) + (x :: l).getD (j + 1) 0 = x + (pre l j + l.getD j 0)
    rw [pre_cons x l j]
    have : (x :: l).getD (j + 1) 0 = l.getD j 0 := by simp [List.getD]
    rw [this]
    omega
theorem nonneg_app {l : List Int} (h : Nonneg l) : Nonneg (0 :: l ++ [0]) := by
  intro i
  match i with
  | 0 => simp [List.getD]
  | i + 1 =>
    have e : (0 :: l ++ [0]).getD (i + 1) 0 = (l ++ [0]).getD i 0 := by simp [List.getD]
    rw [e]
    by_cases hi : i < l.length
    · have : (l ++ [0]).getD i 0 = l.getD i 0 := by simp [List.getD, List.getElem?_append_left hi]
      rw [this]; exact h i
    · have : (l ++ [0]).getD i 0 = 0 := by
        simp only [List.getD]
        rw [List.getElem?_append_right (by omega)]
        cases h2 : (i - l.length) with
        | zero => rfl
        | succ m => rfl
      rw [this]; decide
theorem pre_app0 (l : List Int) : ∀ j, pre (l ++ [0]) j = pre l j
  | 0 => rfl
  | j + 1 => by
    show pre _ j + (l ++ [0]).getD j 0 = pre l j + l.getD j 0
    rw [pre_app0 l j]
    by_cases hi : j < l.length
    · have : (l ++ [0]).getD j 0 = l.getD j 0 := by simp [List.getD, List.getElem?_append_left hi]
      rw [this]
    · have : (l ++ [0]).getD j 0 = 0 := by
        simp only [List.getD]
        rw [List.getElem?_append_right (by omega)]
        cases h2 : (j - l.length) with
        | zero => rfl
        | succ m => rfl
      have h3 : l.getD j 0 = 0 := by simp only [List.getD]; rw [List.getElem?_eq_none (by omega)]; rfl
      rw [this, h3]
theorem mid_nonneg {f : Int} {n : Nat} (hf : 0 < f) : Nonneg (0 :: evL f (n - 1) ++ [0]) := nonneg_app (evL_nonneg (by omega))
theorem mid_pre (f : Int) {n : Nat} (hn : 1 < n) : pre (0 :: evL f (n - 1) ++ [0]) (n + 1) = f := by
  show pre (0 :: (evL f (n - 1) ++ [0])) (n + 1) = f
  rw [pre_cons, pre_app0, Int.zero_add]
  obtain ⟨m, rfl⟩ : ∃ m, n = m + 1 := ⟨n - 1, by omega⟩
  show pre (evL f m) m + (evL f m).getD m 0 = f
  have : (evL f m).getD m 0 = 0 := by
    simp only [List.getD]; rw [List.getElem?_eq_none (by rw [evL_len]; omega)]; rfl
  rw [this, evL_sum (by omega)]
  omega
/-- Spaces never sum to more than the room. -/
theorem spL_pre (f way : Int) (n : Nat) (hn : 1 ≤ n) {j : Nat} (hj : j ≤ n + 1) : (0 ≤ pre (spL f n way) j ∧ pre (spL f n way) j ≤ f) ∨ (f ≤ pre (spL f n way) j ∧ pre (spL f n way) j ≤ 0) := by
  have key : ∀ l : List Int, 0 < f → Nonneg l → pre l (n + 1) = f → (0 ≤ pre l j ∧ pre l j ≤ f) ∨ (f ≤ pre l j ∧ pre l j ≤ 0) := fun l hf hl h => by
    have h1 := pre_nonneg hl j
    have h2 := pre_mono hl hj
    left; omega
  unfold spL
  split
  · show (0 ≤ pre ((List.replicate (n + 1) (0 : Int)).set 0 f) j ∧ _) ∨ _
    unfold zerL
    rw [pre_set0]
    split <;> omega
  split
  · unfold zerL
    rw [pre_set0]
    split <;> omega
  split
  · rename_i h
    exact key _ h.2.1 (mid_nonneg h.2.1) (mid_pre f h.2.2)
  split
  · rename_i h1 h2 h3 h4
    have hf : 0 < f := by omega
    refine key _ hf (arL_nonneg (evL_nonneg (by omega)) n _) ?_
    rw [arL_pre _ _ _ (Nat.le_refl _)]
    exact evL_sum (by omega)
  split
  · rename_i h1 h2 h3 h4 h5
    have hf : 0 < f := by omega
    exact key _ hf (evL_nonneg (by omega)) (evL_sum (by omega))
  · unfold zerL
    rw [pre_rep]
    omega
theorem spL_len (f way : Int) (n : Nat) (hn : 1 ≤ n) : (spL f n way).length = n + 1 := by
  unfold spL zerL
  split
  · simp
  split
  · simp
  split
  · simp [evL_len]; omega
  split
  · exact arL_len _ _ _
  split
  · exact evL_len _ _
  · simp
end Go.Proofs.Ythofammjbicogaa
