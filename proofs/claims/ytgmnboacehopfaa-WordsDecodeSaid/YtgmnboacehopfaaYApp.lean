/-
  append, as one step of a region that draws: what the slice held before, it holds still.
-/
import Derived.Test.YtgmnboacehopfaaZ7
import Derived.Test.YtgmnboacehopfaaYShS
namespace Go.Proofs.Ytgmnboacehopfaa
open Go Go.RowKit
set_option linter.unusedSimpArgs false
set_option linter.unusedVariables false

section
variable {P : Program} {w : World}
theorem run_append_keep (base : Nat) (t ty e : TypeId) (i : TypeInfo) (z : Value) (size bytes : Nat) (ht : P.underlying t = some (.slice e)) (hi : P.info? e = some i) (hz : i.zero = some z)
    (hsize : i.size = size) (hby : i.bytes = bytes) (hzs : z.cells.size = size) (hsz : 0 < size)
    (v : Value) (n : Nat) (xs : List Value) (hown : w.ownsRow base e size v n xs)
    (a : Addr) (m c : Nat) (news : List Value) (hl : news.length = m * size) (hnews : ∀ j u, news[j]? = some u → w.cell? (a.add j) = some u) (h1 : ∀ u ∈ news, u.oneCell' = true)
    (h63 : n + m ≤ maxLen) (hbytes : (n + m) * bytes ≤ 140737488355328) {v' : Value} {w' : World} (hr : (Builtin.append_ #[t, t] ty #[v, .slice (some a) m c]).run P w = .ok v' w') : w'.ownsRow base e size v n xs := by
  subst hsize
  subst hby
  rcases hown.2 with ⟨rfl, rfl⟩ | ⟨g, cap, cur, rfl, hbg, hg, hnc, hcm, hcs, htake⟩
  · obtain rfl : xs = [] := List.eq_nil_of_length_eq_zero (by simpa using hown.1)
    exact World.ownsRow_nil _ _ _ _
  · by_cases hroom : n + m ≤ cap
    · have hfit : n * i.size + news.length ≤ cur.size := by rw [hl, hcs, ← Nat.add_mul]; exact Nat.mul_le_mul_right _ hroom
      rw [run_append_room (P := P) w t ty e i ht hi g n cap cur hg a m c news hl hnews h1 hroom hfit] at hr
      obtain ⟨rfl, rfl⟩ : _ = v' ∧ _ = w' := by simpa using hr
      refine ⟨hown.1, .inr ⟨g, cap, _, rfl, hbg, setRow_heap w g cur _ e _ hg, hnc, hcm, ?_, ?_⟩⟩
      · simp only [List.size_toArray, List.length_append, List.length_take, List.length_drop, Array.length_toList]
        omega
      · have e1 : (cur.toList.take (n * i.size)).length = n * i.size := by rw [List.length_take, Array.length_toList]; omega
        rw [← htake]
        show List.take (n * i.size) (cur.toList.take (n * i.size) ++ (news ++ cur.toList.drop (n * i.size + news.length))) = _
        exact List.take_left' e1
    · have hsmall : n + m ≤ 9223372036854775807 := by simp only [maxLen] at h63; omega
      have holds : ∀ j u, xs[j]? = some u → w.cell? ((⟨g, 0, none⟩ : Addr).add j) = some u := hown.cells (g := g) rfl
      rw [run_append_grow (P := P) w t ty e i z ht hi hz ⟨g, 0, none⟩ n cap xs hown.1 holds a m c news hl hnews (by omega) (by omega) (growslice_fits (by omega) hbytes)] at hr
      obtain ⟨rfl, rfl⟩ : _ = v' ∧ _ = w' := by simpa using hr
      exact World.ownsRow.alloc (World.ownsRow.drew hown) _
theorem wp_append_keep {o : Oper} {act : Act} {K : Act → World → Prop} {Q : Exit → Act → World → Prop} (s x : Operand) (t : TypeId)
    (ho : o.op = .call { callee := .builtin .append, args := #[s, x], argTypes := #[t, t] })
    (base : Nat) (e : TypeId) (i : TypeInfo) (z : Value) (size bytes : Nat) (ht : P.underlying t = some (.slice e)) (hi : P.info? e = some i) (hz : i.zero = some z)
    (hsize : i.size = size) (hby : i.bytes = bytes) (hzs : z.cells.size = size) (hsz : 0 < size)
    (v : Value) (n : Nat) (xs : List Value) (hs : act.eval s = v) (hown : w.ownsRow base e size v n xs)
    (ad : Addr) (m c : Nat) (news : List Value) (hx : act.eval x = .slice (some ad) m c) (hl : news.length = m * size) (hnews : ∀ j u, news[j]? = some u → w.cell? (ad.add j) = some u) (h1 : ∀ u ∈ news, u.oneCell' = true)
    (h63 : n + m ≤ maxLen) (hbytes : (n + m) * bytes ≤ 140737488355328) (hbase : base ≤ w.heap.size)
    (h : ∀ v' w', w'.ownsRow base e size v' (n + m) (xs ++ news) → w.grownBy w' v.ownBlock → w'.ownsRow base e size v n xs → K (act.put o.dst v') w') : o.wp P act w K Q := by
  obtain ⟨v', w', hr, h2, h3, h4⟩ := run_append_own (P := P) w base t o.type e i z size bytes ht hi hz hsize hby hzs hsz v n xs hown ad m c news hl hnews h1 h63 hbytes hbase
  have hk := run_append_keep (P := P) base t o.type e i z size bytes ht hi hz hsize hby hzs hsz v n xs hown ad m c news hl hnews h1 h63 hbytes hr
  unfold Oper.wp execOp
  simp only [ho, resolve, invoke, builtin, Sem.run_bind, Sem.run_pure, Result.andThen_ok, List.map_toArray, List.map_cons, List.map_nil, hs, hx, hr]
  exact h v' w' h2 h3 hk
end
/-- A slice of things of some cells; one thing laid by a region itself. -/
def SliW (B : Nat) (T : TypeId) (cs : List Value) (v : Value) (w : World) : Prop := ∃ b, v = .slice (some ⟨b, 0, none⟩) 1 1 ∧ B ≤ b ∧ Blk w b cs.toArray T
def sliW (B : Nat) (T : TypeId) (cs : List Value) : Cl := .own (SliW B T cs) (fun _ _ _ h hb => by obtain ⟨b, e, h1, h2⟩ := h; exact ⟨b, e, h1, h2.below hb⟩)
def OwnVW (H : Nat) (T : TypeId) (s n : Nat) (xs : List Value) (v : Value) (w : World) : Prop := ∃ ao cap, v = .slice ao n cap ∧ OwnW w H T s ao n cap xs
def ownW (H : Nat) (T : TypeId) (s n : Nat) (xs : List Value) : Cl := .own (OwnVW H T s n xs) (fun _ _ _ h hb => by obtain ⟨a, c, e, h⟩ := h; exact ⟨a, c, e, h.below hb⟩)
theorem OwnW.app {w w1 : World} {B : Nat} {T : TypeId} {s : Nat} {ao : Option Addr} {k cap m : Nat} {vs us : List Value} {v' : Value} (h : OwnW w B T s ao k cap vs)
    (ho : w1.ownsRow B T s v' (k + m) (vs ++ us)) (hg : w.grownBy w1 (Value.slice ao k cap).ownBlock) (hm : 0 < m) (hB : B ≤ w.heap.size) :
    ∃ ao' cap', v' = .slice ao' (k + m) cap' ∧ OwnW w1 B T s ao' (k + m) cap' (vs ++ us) ∧ (∀ C a, C ≤ B → Below C a w → Below C a w1) ∧ (∀ b cs T2, Blk w b cs T2 → T2 ≠ T → Blk w1 b cs T2) ∧ (∀ b cs T2, Blk w b cs T2 → (∀ g, (Value.slice ao k cap).ownBlock = some g → g ≠ b) → Blk w1 b cs T2) := by
  have hs : ∃ ao' cap', v' = .slice ao' (k + m) cap' := by
    rcases ho.2 with ⟨_, e⟩ | ⟨g, c, cur, e, _⟩
    · omega
    · exact ⟨_, _, e⟩
  obtain ⟨ao', cap', rfl⟩ := hs
  refine ⟨ao', cap', rfl, ho, fun C a hC hb => ?_, fun b cs T2 h2 hT => ?_, fun b cs T2 h2 hne => ?_⟩
  · exact hb.grown hg (by omega) (fun j hj => by have := (h.ge hj).1; omega)
  · exact (hg.block b h2.lt (fun e => (h.ne h2 hT) e.symm)).trans h2
  · exact (hg.block b h2.lt (fun e => hne b e.symm rfl)).trans h2
/-- What is owned, behind an append to a slice of another type. -/
theorem OwnW.beside {w w1 : World} {B B2 : Nat} {T T2 : TypeId} {s s2 : Nat} {ao a2 : Option Addr} {k cap k2 cap2 : Nat} {vs vs2 : List Value} (h : OwnW w B T s ao k cap vs) (h2 : OwnW w B2 T2 s2 a2 k2 cap2 vs2) (hT : T ≠ T2)
    (hg : w.grownBy w1 (Value.slice a2 k2 cap2).ownBlock) : OwnW w1 B T s ao k cap vs := by
  refine ⟨h.1, ?_⟩
  rcases h.2 with h0 | ⟨g, c, cur, hv, hb, hh, r⟩
  · exact .inl h0
  · refine .inr ⟨g, c, cur, hv, hb, (hg.block g (Array.getElem?_eq_some_iff.1 hh).1 (fun e0 => ?_)).trans hh, r⟩
    have e := e0.symm
    rcases h2.2 with ⟨hv2, _⟩ | ⟨g2, c2, cur2, hv2, _, hh2, _⟩
    · rw [hv2] at e; simp [Value.ownBlock] at e
    · rw [hv2] at e
      simp [Value.ownBlock] at e
      subst e
      rw [hh] at hh2
      simp at hh2
      exact hT hh2.2
end Go.Proofs.Ytgmnboacehopfaa
