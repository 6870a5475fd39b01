/-
  append, and where the new slice lies; the law WordsDecode: what has been gathered.
-/
import Derived.Test.YtgmnboacehopfaaYEachB
import Derived.Test.YtgmnboacehopfaaYWoH
import Derived.Maps.AppendAt
namespace Go.Proofs.Ytgmnboacehopfaa
open Go Go.RowKit
set_option linter.unusedSimpArgs false
set_option linter.unusedVariables false

section
variable {P : Program} {w : World}
theorem wp_append_at {o : Oper} {act : Act} {K : Act → World → Prop} {Q : Exit → Act → World → Prop} (s x : Operand) (t : TypeId)
    (ho : o.op = .call { callee := .builtin .append, args := #[s, x], argTypes := #[t, t] })
    (base : Nat) (e : TypeId) (i : TypeInfo) (z : Value) (size bytes : Nat) (ht : P.underlying t = some (.slice e)) (hi : P.info? e = some i) (hz : i.zero = some z)
    (hsize : i.size = size) (hby : i.bytes = bytes) (hzs : z.cells.size = size) (hsz : 0 < size)
    (v : Value) (n : Nat) (xs : List Value) (hs : act.eval s = v) (hown : w.ownsRow base e size v n xs)
    (ad : Addr) (m c : Nat) (news : List Value) (hx : act.eval x = .slice (some ad) m c) (hl : news.length = m * size) (hnews : ∀ j u, news[j]? = some u → w.cell? (ad.add j) = some u) (h1 : ∀ u ∈ news, u.oneCell' = true)
    (h63 : n + m ≤ maxLen) (hbytes : (n + m) * bytes ≤ 140737488355328) (hbase : base ≤ w.heap.size)
    (h : ∀ v' w', w'.ownsRow base e size v' (n + m) (xs ++ news) → w.grownBy w' v.ownBlock → w'.ownsRow base e size v n xs → (v'.ownBlock = v.ownBlock ∨ v'.ownBlock = some w.heap.size) → K (act.put o.dst v') w') : o.wp P act w K Q := by
  obtain ⟨v', w', hr, h2, h3, h4, h5⟩ := run_append_own_at (P := P) w base t o.type e i z size bytes ht hi hz hsize hby hzs hsz v n xs hown ad m c news hl hnews h1 h63 hbytes hbase
  have hk := run_append_keep (P := P) base t o.type e i z size bytes ht hi hz hsize hby hzs hsz v n xs hown ad m c news hl hnews h1 h63 hbytes hr
  unfold Oper.wp execOp
  simp only [ho, resolve, invoke, builtin, Sem.run_bind, Sem.run_pure, Result.andThen_ok, List.map_toArray, List.map_cons, List.map_nil, hs, hx, hr]
  exact h v' w' h2 h3 hk h5
end
/-- Two slices lie in two blocks. -/
def Apart (u v : Value) : Prop := ∀ g, u.ownBlock = some g → v.ownBlock ≠ some g
theorem Apart.symm {u v : Value} (h : Apart u v) : Apart v u := fun g h1 h2 => h g h2 h1
/-- What is owned, behind an append to a slice that lies elsewhere. -/
theorem OwnW.besideN {w w1 : World} {B : Nat} {T : TypeId} {s : Nat} {ao : Option Addr} {k cap : Nat} {vs : List Value} {u : Value} (h : OwnW w B T s ao k cap vs) (hn : Apart (.slice ao k cap) u)
    (hg : w.grownBy w1 u.ownBlock) : OwnW w1 B T s ao k cap vs := by
  refine ⟨h.1, ?_⟩
  rcases h.2 with h0 | ⟨g, c, cur, hv, hb, hh, r⟩
  · exact .inl h0
  · refine .inr ⟨g, c, cur, hv, hb, (hg.block g (Array.getElem?_eq_some_iff.1 hh).1 (fun e0 => ?_)).trans hh, r⟩
    refine hn g ?_ e0.symm
    rw [hv]; rfl
/-- One of two has been appended to: they lie apart still. -/
theorem Apart.app {w : World} {B : Nat} {T : TypeId} {s : Nat} {ao : Option Addr} {k cap : Nat} {vs : List Value} {v v' : Value} (h : OwnW w B T s ao k cap vs) (hn : Apart (.slice ao k cap) v) (hv : v'.ownBlock = v.ownBlock ∨ v'.ownBlock = some w.heap.size) : Apart (.slice ao k cap) v' := by
  intro g hg
  rcases hv with e | e
  · rw [e]; exact hn g hg
  · rw [e]
    have := (h.ge hg).2
    intro e2
    simp at e2
    omega
theorem cells1 (u : Value) (h : u.oneCell' = true) : ∀ x ∈ [u], x.oneCell' = true := by
  intro x hx; simp at hx; subst hx; exact h
theorem cellsR (x : Rw) : ∀ u ∈ x.vals, u.oneCell' = true := by
  intro u hu
  simp [Rw.vals] at hu
  rcases hu with rfl | rfl | rfl <;> rfl
def Rw.u1 (x : Rw) : Value := .int .u64 (x.w : Int)
def Rw.u2 (x : Rw) : Value := .int .u64 (x.s : Int)
def Rw.u3 (x : Rw) : Value := .bool x.br
def OwnA (H : Nat) (T : TypeId) (n : Nat) (xs : List Value) (z v : Value) (w : World) : Prop := ∃ ao cap, v = .slice ao n cap ∧ OwnW w H T 1 ao n cap xs ∧ Apart z v
/-- What has been gathered. -/
def AccRel (w1 : World) (m : Nat) (s5 s6 s7 s8 : Value) (wr : World) : Prop :=
  ∃ (acc : List Rw) (ar : Option Addr) (cr : Nat) (aw : Option Addr) (cw : Nat) (az : Option Addr) (cz : Nat) (ab : Option Addr) (cb : Nat), acc.length = m ∧ (∀ x ∈ acc, x.Wf) ∧ s5 = .slice ar m cr ∧ s6 = .slice aw m cw ∧ s7 = .slice az m cz ∧ s8 = .slice ab m cb ∧
    OwnW wr w1.heap.size 34 3 ar m cr (acc.flatMap Rw.vals) ∧ OwnW wr w1.heap.size 30 1 aw m cw (acc.map Rw.u1) ∧ OwnW wr w1.heap.size 30 1 az m cz (acc.map Rw.u2) ∧ OwnW wr w1.heap.size 4 1 ab m cb (acc.map Rw.u3) ∧ Apart (.slice az m cz) (.slice aw m cw) ∧ Below w1.heap.size w1 wr
theorem AccRel.nil (w1 : World) : AccRel w1 0 (.slice none 0 0) (.slice none 0 0) (.slice none 0 0) (.slice none 0 0) w1 :=
  ⟨[], none, 0, none, 0, none, 0, none, 0, rfl, fun x hx => by simp at hx, rfl, rfl, rfl, rfl, OwnW.nil _ _ _ _, OwnW.nil _ _ _ _, OwnW.nil _ _ _ _, OwnW.nil _ _ _ _, fun g h => by simp [Value.ownBlock] at h, Below.refl _ _⟩
/-- Both Decodes' answer, whatever comes: how many, and what they are. -/
def mD (n : Nat) (l : List Rw) : Nat := if 256 < n ∨ l.all okR = false then 0 else n
def wD (n : Nat) (l : List Rw) : List Wo := if 256 < n ∨ l.all okR = false then [] else l.map woF
theorem wD_len {n : Nat} {l : List Rw} (h : l.length = n) : (wD n l).length = mD n l := by
  unfold wD mD; split <;> simp [h]
theorem wd_row {T : TypeId} {n : Nat} {l : List Rw} {w : World} {e : Ending} {w' : World} (h : WdAns T n l w e w') : ∃ a c, e = .returned (.tuple #[.slice a (mD n l) c, .int .i64 (if 256 < n then 8 else if l.all okR then 0 else 4)]) ∧ RowV w' a (mD n l) 3 ((wD n l).flatMap Wo.vals) ∧ Below w.heap.size w w' := by
  obtain ⟨a, m, c, rfl, h1, h2, hb⟩ := h
  by_cases hc : 256 < n ∨ l.all okR = false
  · obtain rfl := h2 hc
    unfold mD wD
    rw [if_pos hc, if_pos hc]
    exact ⟨a, c, rfl, RowV.nil _ _ _, hb⟩
  · obtain ⟨rfl, ho⟩ := h1 (fun h => hc (.inl h)) (by cases hh : l.all okR with | true => rfl | false => exact absurd (.inr hh) hc)
    unfold mD wD
    rw [if_neg hc, if_neg hc]
    exact ⟨a, c, rfl, ho.row, hb⟩
theorem rw_pick {w : World} {a : Option Addr} {m : Nat} {xs : List Rw} (h : RowV w a m 3 (xs.flatMap Rw.bits)) (hl : xs.length = m) {j : Nat} (hj : j < m) : ∃ g off, a = some ⟨g, off, none⟩ ∧ g < w.heap.size ∧ w.cell? ⟨g, off + j * 3, none⟩ = some (.int .u64 ((xs.getD j rw0).w : Int)) ∧ w.cell? ⟨g, off + j * 3 + 1, none⟩ = some (.int .u64 ((xs.getD j rw0).s : Int)) ∧ w.cell? ⟨g, off + j * 3 + 2, none⟩ = some (.bool (xs.getD j rw0).br) := by
  obtain ⟨g, off, e, hg, hc⟩ := h.at hj
  have hx := fun k (hk : k < 3) => (hc k hk).trans (flW_get Rw.bits 3 (fun _ => rfl) rw0 xs j k (by omega) hk)
  exact ⟨g, off, e, hg, hx 0 (by omega), hx 1 (by omega), hx 2 (by omega)⟩
end Go.Proofs.Ytgmnboacehopfaa
