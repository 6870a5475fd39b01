/-
  A walker by reckoning: loops over maps, in whatever order: each outcome is right.
-/
/-
  A walker by reckoning: loops over maps, in whatever order: the outcomes as one.
-/
/-
  A walker by reckoning: calls; the walker.
-/
/-
  A walker by reckoning: this program's functions; hooks.
-/
/-
  The functions of package wide, each by its contract: what it returns for whatever it is given.
-/
/-
  The functions of package wide, each by its contract: what it returns for whatever it is given. Second part.
-/
/-
  The functions of package wide, each by its contract: what it returns for whatever it is given. Third part.
-/
/-
  Plain facts on the division of a number of two words by one of one word, by digits of half a word.
-/
import Derived.Test.YtigjjddblijpbaaGreatDoorZ6
import Derived.Test.YtigjjddblijpbaaGreatDoorProg
import Derived.KernelRfl
import Derived.Test.YtigjjddblijpbaaGreatDoorZ1
namespace Go.Proofs.YtigjjddblijpbaaGreatDoor.Ex
open Go Go.ChangeMaps
set_option linter.unusedSimpArgs false
set_option linter.unusedVariables false

section
variable {V : Ev} {cl : Cl} {C : Cx} {P : Program} {nt fl : Nat}
theorem isNext_some {o : Oper} {i d : Nat} (h : isNext o = some (i, d)) : o.op = .next (.tmp i) false ∧ o.guard = none ∧ o.dst = some d := by
  unfold isNext at h
  split at h
  · rename_i h1 h2 h3; cases h; exact ⟨h1, h2, h3⟩
  · cases h
theorem isExt_some {o : Oper} {i d : Nat} (h : isExt o = some (i, d)) : o.op = .extract (.tmp i) 0 ∧ o.guard = none ∧ o.dst = some d := by
  unfold isExt at h
  split at h
  · rename_i h1 h2 h3; cases h; exact ⟨h1, h2, h3⟩
  · cases h
theorem isEntry_some {o : Oper} {i d : Nat} (h : isEntry o = some (i, d)) : o.op = .entry (.tmp i) ∧ o.guard = none ∧ o.dst = some d := by
  unfold isEntry at h
  split at h
  · rename_i h1 h2 h3; cases h; exact ⟨h1, h2, h3⟩
  · cases h
theorem loopParts_some {b : Code} {p : LP} (h : loopParts b = some p) : ∃ i5 o1 o2 i6 o3, b = .seq (.region i5 ⟨[o1, o2]⟩ false) (.seq (.cond (.tmp p.tb) .skip (.exit p.id)) (.block p.id1 (.seq (.region i6 p.ops false) p.rest))) ∧ p.ops.toList = o3 :: p.tl ∧
    (o1.op = .next (.tmp p.i) false ∧ o1.guard = none ∧ o1.dst = some p.d1) ∧ (o2.op = .extract (.tmp p.d1) 0 ∧ o2.guard = none ∧ o2.dst = some p.tb) ∧ (o3.op = .entry (.tmp p.i) ∧ o3.guard = none ∧ o3.dst = some p.d6) ∧ p.i ≠ p.d1 ∧ p.i ≠ p.tb := by
  unfold loopParts at h
  split at h
  · rename_i i5 o1 o2 tb id id1 i6 ops rest
    unfold parts2 at h
    split at h
    · rename_i o3 tl ho
      unfold parts3 at h
      split at h
      · rename_i i d1 t tb' i' d6 h1 h2 h3
        split at h
        · rename_i hb
          cases h
          simp only [Bool.and_eq_true, Bool.not_eq_true', nbeq, decide_eq_true_eq, decide_eq_false_iff_not] at hb
          obtain ⟨⟨rfl, rfl⟩, ⟨rfl, h4⟩, h5⟩ := hb
          exact ⟨i5, o1, o2, i6, o3, rfl, ho, isNext_some h1, isExt_some h2, isEntry_some h3, h4, h5⟩
        · cases h
      · cases h
    · cases h
  · cases h
theorem wanted_none {o : Oper} (h : o.guard = none) (ys : Nat → Option Bool) : Region.wanted o ys = true := by
  unfold Region.wanted; rw [h]
theorem putT_lt {tm tm' : Tr Value} {d : Nat} {v : Value} (h : putT nt tm (some d) v = some tm') : d < nt := by
  unfold putT at h
  simp only at h
  split at h
  · rename_i hd
    rw [nblt] at hd
    exact of_decide_eq_true hd
  · cases h
theorem put_at {a : Act} {d : Nat} {v : Value} (h : d < a.tmps.size) : (a.put (some d) v).eval (.tmp d) = v := by
  simp [Act.put, Act.eval, h]
theorem put_ne {a : Act} {d i : Nat} {v : Value} (h : i ≠ d) : (a.put (some d) v).eval (.tmp i) = a.eval (.tmp i) := by
  simp only [Act.put, Act.eval]
  rw [Array.getD_eq_getD_getElem?, Array.getD_eq_getD_getElem?, Array.getElem?_setIfInBounds_ne (fun e => h e.symm)]
theorem concS_mem {E : Lb} : ∀ {ts r : List Nat}, concS E ts = some r → (∀ t, t ∈ ts → ∃ p, E t = some p ∧ p.2 ∈ r) ∧ ∀ n, n ∈ r → ∃ t p, t ∈ ts ∧ E t = some p ∧ p.2 = n
  | [], r, h => by cases h; exact ⟨fun t h => (by cases h), fun t h => (by cases h)⟩
  | t :: ts, r, h => by
    obtain ⟨p, l, h1, h2, rfl⟩ := concS_cons h
    obtain ⟨h3, h4⟩ := concS_mem h2
    refine ⟨fun s hs => ?_, fun n hn => ?_⟩
    · cases hs with
      | head => exact ⟨p, h1, List.mem_cons_self ..⟩
      | tail _ hs => exact (h3 s hs).imp fun q hq => ⟨hq.1, List.mem_cons_of_mem _ hq.2⟩
    · cases hn with
      | head => exact ⟨t, p, List.mem_cons_self .., h1, rfl⟩
      | tail _ hn =>
        obtain ⟨s, q, h5, h6, h7⟩ := h4 n hn
        exact ⟨s, q, List.mem_cons_of_mem _ h5, h6, h7⟩
theorem concS_snoc {E : Lb} {t : Nat} {p : Nat × Nat} (hp : E t = some p) : ∀ {ts r : List Nat}, concS E ts = some r → concS E (ts ++ [t]) = some (r ++ [p.2])
  | [], r, h => by cases h; exact concS_cons' hp rfl
  | s :: ts, r, h => by
    obtain ⟨q, l, h1, h2, rfl⟩ := concS_cons h
    exact concS_cons' h1 (concS_snoc hp h2)
/-- The entries by their stamps. -/
theorem concM_ent {Y : Sy} {E : Lb} : ∀ {es : List (Value × Value × Nat)} {ces : List MapEntry}, concM Y E es = some ces → ces.Pairwise (fun a b => a.born ≠ b.born) →
    (∀ e, e ∈ ces → ∃ t p k v, t ∈ stampsL es ∧ E t = some p ∧ p.2 = e.born ∧ findT t es = some (k, v) ∧ conc Y E k = some e.key ∧ conc Y E v = some e.val) ∧
    (∀ t, t ∈ stampsL es → ∃ p e, E t = some p ∧ e ∈ ces ∧ e.born = p.2) ∧
    ∀ t s p q, t ∈ stampsL es → s ∈ stampsL es → E t = some p → E s = some q → p.2 = q.2 → t = s
  | [], ces, h, _ => by cases h; exact ⟨fun e h => (by cases h), fun t h => (by cases h), fun t s p q h => (by cases h)⟩
  | (k, v, t) :: es, ces, h, hp => by
    obtain ⟨k', v', p, es', h1, h2, h3, h4, rfl⟩ := concM_cons h
    obtain ⟨g1, g2, g3⟩ := concM_ent h4 (List.pairwise_cons.1 hp).2
    have hne := (List.pairwise_cons.1 hp).1
    have sep : ∀ s q, s ∈ stampsL es → E s = some q → p.2 ≠ q.2 := fun s q hs hq e => by
      obtain ⟨p2, e2, h5, h6, h7⟩ := g2 s hs
      rw [hq] at h5; cases h5
      exact hne e2 h6 (by rw [h7]; exact e)
    refine ⟨fun e he => ?_, fun s hs => ?_, fun s s' q q' hs hs' hq hq' e => ?_⟩
    · cases he with
      | head => exact ⟨t, p, k, v, List.mem_cons_self .., h3, rfl, by unfold findT; simp, h1, h2⟩
      | tail _ he =>
        obtain ⟨s, q, k2, v2, h5, h6, h7, h8, h9⟩ := g1 e he
        refine ⟨s, q, k2, v2, List.mem_cons_of_mem _ h5, h6, h7, ?_, h9⟩
        unfold findT
        split
        · rename_i hb
          have := Nat.eq_of_beq_eq_true hb
          subst this
          rw [h3] at h6; cases h6
          exact absurd rfl (sep s p h5 h3)
        · exact h8
    · cases hs with
      | head => exact ⟨p, _, h3, List.mem_cons_self .., rfl⟩
      | tail _ hs =>
        obtain ⟨q, e, h5, h6, h7⟩ := g2 s hs
        exact ⟨q, e, h5, List.mem_cons_of_mem _ h6, h7⟩
    · cases hs with
      | head =>
        rw [h3] at hq; cases hq
        cases hs' with
        | head => rfl
        | tail _ hs' => exact absurd e (sep s' q' hs' hq')
      | tail _ hs =>
        cases hs' with
        | head => rw [h3] at hq'; cases hq'; exact absurd e.symm (sep s q hs hq)
        | tail _ hs' => exact g3 s s' q q' hs hs' hq hq' e
theorem wl_val {ops : Array Oper} {o : Oper} {rest : List Oper} {a : Act} {w w' : World} {Q : Exit → Act → World → Prop} {v : Value} (hg : o.guard = none) (hr : (execOp a.eval o).run P w = .ok (.value v) w') (h : wpList P ops Q rest (a.put o.dst v) w') : wpList P ops Q (o :: rest) a w := by
  unfold wpList
  rw [if_pos (wanted_none hg _)]
  refine .inl ?_
  unfold Oper.wp
  rw [hr]
  exact h
theorem put2_ok {E : Lb} {tm tm' : Tr Value} {a : Act} {d1 d2 : Nat} {v1 v2 v1' v2' : Value} (h : put2 nt tm d1 v1 d2 v2 = some tm') (hs : a.tmps.size = nt) (ht : ∀ t v, tm.get t = some v → ∃ v', conc V.Y E v = some v' ∧ a.tmps[t]? = some v') (h1 : conc V.Y E v1 = some v1') (h2 : conc V.Y E v2 = some v2') :
    d1 < nt ∧ d2 < nt ∧ (a.put (some d1) v1').tmps.size = nt ∧ ((a.put (some d1) v1').put (some d2) v2').tmps.size = nt ∧ ∀ t u, tm'.get t = some u → ∃ u', conc V.Y E u = some u' ∧ ((a.put (some d1) v1').put (some d2) v2').tmps[t]? = some u' := by
  unfold put2 at h
  split at h
  · cases h
  · rename_i tm1 htm
    obtain ⟨g1, g2⟩ := putT_ok htm hs ht h1
    obtain ⟨g3, g4⟩ := putT_ok h g1 g2 h2
    exact ⟨putT_lt htm, putT_lt h, g1, g3, g4⟩
/-- The next entry of an iterator over a map that holds none that is younger than it: none is left, or it is one of those that are left. -/
theorem next_run {w : World} {ty : TypeId} {r m s last c : Nat} {seen : Array Nat} {es : Array MapEntry} (h1 : w.heap[r]? = some (.mapIter (some m) s seen last)) (h2 : w.heap[m]? = some (.map es c)) (h3 : ∀ x ∈ es.toList, x.born < s) (h4 : ∀ x ∈ es.toList, x.born < last) :
    ((leftOf es seen).size = 0 ∧ (Instr.next (.pointer (some ⟨r, 0, none⟩)) false ty).run P w = .ok (.tuple #[.bool false]) w) ∨
    ∃ e ∈ (leftOf es seen).toList, ∃ w1 : World, (w1 = w ∨ w1 = w.drew) ∧ (Instr.next (.pointer (some ⟨r, 0, none⟩)) false ty).run P w = .ok (.tuple #[.bool true, e.key, e.val]) (setBlock w1 r (.mapIter (some m) s (seen.push e.born) c)) := by
  by_cases hs : s ≤ last
  · exact run_next_at w ty r m s last seen es c h1 h2 h3 hs
  · -- the iterator is younger than its last step: as if it were as old
    have ht : (!seen.isEmpty && !es.isEmpty && es.all (·.born ≥ last)) = false := next_test_false seen es last last h4 (Nat.le_refl _)
    have g1 : (getObj r).run P w = .ok (.mapIter (some m) s seen last) w := by
      show Sem.run P (.getObj r .pure) w = _
      unfold Sem.run; rw [h1]; rfl
    have g2 : (getObj m).run P w = .ok (.map es c) w := by
      show Sem.run P (.getObj m .pure) w = _
      unfold Sem.run; rw [h2]; rfl
    obtain ⟨L, hL⟩ : ∃ L, leftOf es seen = L := ⟨_, rfl⟩
    have hLm : ∀ x ∈ L, x.born < s := fun x hx => by
      rw [← hL] at hx; unfold leftOf at hx
      exact h3 x (by simp at hx ⊢; exact hx.1)
    have f1 : L.filter (fun x => decide (x.born < s)) = L := Array.filter_eq_self.2 fun x hx => decide_eq_true (hLm x hx)
    have f2 : L.filter (fun x => decide (x.born ≥ s)) = #[] := Array.filter_eq_empty_iff.2 fun x hx => by
      have := hLm x hx
      simp; omega
    have hL' : es.filter (fun e => !seen.contains e.born) = L := hL
    simp only [Instr.next, Sem.run_bind, g1, g2, Result.andThen_ok, ht, Bool.false_eq_true, if_false, hL', f1, f2, Array.append_empty]
    rw [hL]
    by_cases h0 : L.size = 0
    · have : L = #[] := Array.eq_empty_of_size_eq_zero h0
      subst this
      exact .inl ⟨rfl, by simp [choose, Sem.run, Question.forced]⟩
    · have hne : L.isEmpty = false := by simp [Array.isEmpty, h0]
      simp only [hne, Bool.false_eq_true, if_false, Array.empty_append, Array.size_map]
      have hpick : ∃ (j : Nat) (w1 : World), j < L.size ∧ (w1 = w ∨ w1 = w.drew) ∧ (choose (.mapNext L.size)).run P w = .ok j w1 := by
        by_cases hf : L.size ≤ 1
        · exact ⟨0, w, by omega, .inl rfl, by simp [choose, Sem.run, Question.forced, hf]⟩
        · have hpos : 0 < L.size := by omega
          have hj : ∃ j, (choose (.mapNext L.size)).run P w = .ok j w.drew ∧ j < L.size := by
            simp only [choose, Sem.run, Question.forced, decide_eq_true_eq, hf, if_false, Question.cut]
            exact ⟨_, rfl, Nat.mod_lt _ hpos⟩
          obtain ⟨j, h5, h6⟩ := hj
          exact ⟨j, w.drew, h6, .inr rfl, h5⟩
      obtain ⟨j, w1, hj, hw1, hrun⟩ := hpick
      have hr1 : w1.heap[r]? = some (.mapIter (some m) s seen last) := by rcases hw1 with rfl | rfl <;> exact h1
      refine .inr ⟨L[j], by simp, w1, hw1, ?_⟩
      simp only [hrun, Array.getElem?_map, Array.getElem?_eq_getElem hj, Option.map_some, Sem.run_bind, Result.andThen_ok, run_setObj_at hr1, Sem.run_pure]
/-- A loop over a map, whatever the order. -/
theorem explore_ok (hm : P.follows .mixedOrders = true) (hC : CxOK C P V.Y) (hcl : ClOK V P cl) (hcs : ClS cl) {b : Code} {p : LP} (hp : loopParts b = some p) : ∀ (n : Nat) (st : St) (outs : List OutM), exploreM cl C P nt fl p n st = some outs →
    ∀ E a w, SR V E st nt a w → (∀ l, st.nx ≤ l → E l = none) → ∀ Q : Exit → Act → World → Prop,
      (∀ m st' wr, (m, st', wr) ∈ outs → ∀ E' a' w', SR V E' st' nt a' w' → Step V E st.H st.nx w E' st'.H st'.nx wr w' → Q (.exit p.id) a' w') → Code.rounds P b Q n a w
  | 0, st, outs, h => by cases h
  | n + 1, st, outs, h => by
    intro E a w hS hn Q hQ
    obtain ⟨i5, o1, o2, i6, o3, hb, hops, ⟨n1, n2, n3⟩, ⟨x1, x2, x3⟩, ⟨e1, e2, e3⟩, hd1, htb⟩ := loopParts_some hp
    obtain ⟨ia, hia, hcase⟩ := explore_cases h
    obtain ⟨i1, i2, i3, i4, i5', i6'⟩ := iterAt_some hia
    -- the iterator and its map
    obtain ⟨pv, hpv, hpe⟩ := hS.tm _ _ i1
    have hpe2 := ev_ok hS.tm (.tmp p.i) _ i1
    obtain ⟨pl, hpl, rfl⟩ := conc_ptr_inv hpv
    obtain ⟨pl2, hpl2, s, seen', last, qm, hqm, hit, hseen, hts⟩ := hS.hr.has _ _ i2
    rw [hpl] at hpl2; cases hpl2
    obtain ⟨qm2, hqm2, es', ces, clk, hmp, hces, hperm, hkey, hborn, hclk⟩ := hS.hr.has _ _ i3
    rw [hqm] at hqm2; cases hqm2
    obtain ⟨c1, c2, c3⟩ := concM_ent hces hborn
    obtain ⟨d1, d2⟩ := concS_mem hseen
    have hold : ∀ x ∈ (⟨es'⟩ : Array MapEntry).toList, x.born < s := fun x hx => by
      obtain ⟨t, pt, k, v, h1, h2, h3, _⟩ := c1 x (hperm.mem_iff.1 (by simpa using hx))
      obtain ⟨r, h4, h5, _⟩ := hts t (i5' t h1)
      rw [h2] at h4; cases h4
      omega
    have hsl : ∀ x ∈ (⟨es'⟩ : Array MapEntry).toList, x.born < last := fun x hx => by
      obtain ⟨t, pt, k, v, h1, h2, h3, _⟩ := c1 x (hperm.mem_iff.1 (by simpa using hx))
      obtain ⟨r, h4, _, h5⟩ := hts t (i5' t h1)
      rw [h2] at h4; cases h4
      omega
    have hnx : a.eval (.tmp p.i) = .pointer (some ⟨pl.1, 0, none⟩) := Option.some.inj (hpe2.symm.trans hpv)
    have hex : ∀ ρ, execOp ρ o1 = (do pure (.value (← Instr.next (ρ (.tmp p.i)) false o1.type))) := fun ρ => by simp only [execOp, n1]
    have hex2 : ∀ ρ, execOp ρ o2 = (do pure (.value (← Instr.extract (ρ (.tmp p.d1)) 0))) := fun ρ => by simp only [execOp, x1]
    have hex3 : ∀ ρ, execOp ρ o3 = (do pure (.value (← Instr.entry (ρ (.tmp p.i))))) := fun ρ => by simp only [execOp, e1]
    show Code.wp P b (Exit.then (Code.rounds P b Q n) Q) a w
    generalize hR : Code.rounds P b Q n = Rn
    rw [hb]
    rcases next_run (P := P) (ty := o1.type) hit hmp hold (fun x hx => hsl x hx) with ⟨hleft, hrun⟩ | ⟨e, he, w1, hw1, hrun⟩
    · -- none is left
      have hnil : leftL ia.seen (stampsL ia.es) = [] := by
        rw [List.eq_nil_iff_forall_not_mem]
        intro t ht
        obtain ⟨ht1, ht2⟩ := leftL_mem.1 ht
        obtain ⟨pt, e, h1, h2, h3⟩ := c2 t ht1
        have hemp : leftOf ⟨es'⟩ ⟨seen'⟩ = #[] := Array.eq_empty_of_size_eq_zero hleft
        unfold leftOf at hemp
        rw [Array.filter_eq_empty_iff] at hemp
        have h4 := hemp e (by simpa using hperm.mem_iff.2 h2)
        have h5 : e.born ∈ seen' := by simpa using h4
        obtain ⟨t2, pt2, h6, h7, h8⟩ := d2 _ h5
        have := c3 t t2 pt pt2 ht1 (i6' t2 h6) h1 h7 (by omega)
        subst this
        exact ht2 h6
      rcases hcase with ⟨_, tm, htm, rfl⟩ | ⟨hne, _⟩
      · obtain ⟨k1, k2, k3, k4, k5⟩ := put2_ok (a := a) (v1' := .tuple #[.bool false]) (v2' := .bool false) htm hS.sz hS.tm rfl rfl
        refine wp_seq (wp_region_list ?_)
        refine wl_val (w' := w) (v := .tuple #[.bool false]) n2 (by rw [hex, hnx]; simp only [Sem.run_bind, hrun, Result.andThen_ok, Sem.run_pure]) ?_
        rw [n3]
        refine wl_val (w' := w) (v := .bool false) x2 (by rw [hex2, put_at (by rw [hS.sz]; exact k1)]; rfl) ?_
        rw [x3]
        refine wp_seq (wp_cond_false (put_at (by rw [k3]; exact k2)) (wp_exit ?_))
        exact hQ st.nx _ [] (List.mem_singleton.2 rfl) E _ w ⟨by rw [put_defers, put_defers]; exact hS.df, k4, k5, hS.hr⟩ (Step.refl hS.hr _)
      · exact absurd hnil hne
    · unfold leftOf at he
      simp only [Array.toList_filter, List.mem_filter] at he
      obtain ⟨hin, hns⟩ := he
      obtain ⟨t, pt, k, v, ht, hpt, hbt, hfd, hck, hcv⟩ := c1 e (hperm.mem_iff.1 hin)
      have htl : t ∈ leftL ia.seen (stampsL ia.es) := leftL_mem.2 ⟨ht, fun hts => by
        obtain ⟨q, h1, h2⟩ := d1 t hts
        rw [hpt] at h1; cases h1
        rw [hbt] at h2
        simp [h2] at hns⟩
      rcases hcase with ⟨hnil, _⟩ | ⟨_, hall, _⟩
      · rw [hnil] at htl; cases htl
      · obtain ⟨st1, wr1, l, hround, hexp, hsub⟩ := hall t htl
        obtain ⟨k2, v2, tm1, tm2, st2, w2, x, w3, r1, r2, r3, r4, r5, r6, rfl⟩ := roundM_some hround
        rw [hfd] at r1; cases r1
        have hst1 := evList_static hcs _ _ _ _ _ r4
        have hst2 := evC_static hcs _ _ _ _ _ r5
        have ctup : conc V.Y E (.tuple ⟨[.bool true, k, v]⟩) = some (.tuple #[.bool true, e.key, e.val]) := conc_tuple (concL_cons' rfl (concL_cons' hck (concL_one hcv)))
        have cent : conc V.Y E (.tuple ⟨[k, v]⟩) = some (.tuple #[e.key, e.val]) := conc_tuple (concL_cons' hck (concL_one hcv))
        obtain ⟨k1, k2, k3, k4, k5⟩ := put2_ok (a := a) (v2' := .bool true) r2 hS.sz hS.tm ctup rfl
        obtain ⟨k6, k7⟩ := putT_ok r3 k4 k5 cent
        have hw : w1.heap = w.heap ∧ w1.os = w.os ∧ w1.tape = w.tape ∧ w1.output = w.output := by rcases hw1 with rfl | rfl <;> exact ⟨rfl, rfl, rfl, rfl⟩
        obtain ⟨W, hW⟩ : ∃ W, setBlock w1 pl.1 (.mapIter (some qm.1) s ((⟨seen'⟩ : Array Nat).push e.born) clk) = W := ⟨_, rfl⟩
        have hplt : pl.1 < w.heap.size := (Array.getElem?_eq_some_iff.1 hit).1
        have hWit : W.heap[pl.1]? = some (.mapIter (some qm.1) s ((⟨seen'⟩ : Array Nat).push e.born) clk) := by
          rw [← hW]; unfold setBlock
          rw [Array.getElem?_setIfInBounds, if_pos rfl, if_pos (by rw [hw.1]; exact hplt)]
        have hWo : ∀ b, b ≠ pl.1 → W.heap[b]? = w.heap[b]? := fun b hb => by
          rw [← hW]; unfold setBlock
          rw [Array.getElem?_setIfInBounds, if_neg (fun e => hb e.symm), hw.1]
        have hWmap : W.heap[qm.1]? = some (.map ⟨es'⟩ clk) := by
          rw [hWo _ (fun e => by rw [e, hit] at hmp; cases hmp)]
          exact hmp
        have st0 : Step V E st.H st.nx w E (Tr.set D st.H ia.l (some (.it (some ia.m) (stampsL ia.es) (ia.seen ++ [t])))) st.nx [ia.l] W := by
          refine Step.write hS.hr i4 i2 hpl ?_ ?_ ?_ ?_ hWo ?_
          · rw [← hW]; exact hw.2.1
          · rw [← hW]; exact hw.2.2.1
          · rw [← hW]; exact hw.2.2.2
          · rw [← hW]; unfold setBlock; simp [hw.1]
          · refine ⟨s, seen' ++ [e.born], clk, qm, hqm, by rw [hWit]; simp, by rw [← hbt]; exact concS_snoc hpt hseen, fun t' ht' => ?_⟩
            obtain ⟨r, h4, h5, _⟩ := hts t' (i5' t' ht')
            obtain ⟨r2, e', h6, h7, h8⟩ := c2 t' ht'
            rw [h4] at h6; cases h6
            exact ⟨r, h4, h5, by rw [← h8]; exact hclk e' h7⟩
        refine wp_seq (wp_region_list ?_)
        refine wl_val (w' := W) (v := .tuple #[.bool true, e.key, e.val]) n2 (by rw [hex, hnx]; simp only [Sem.run_bind, hrun, Result.andThen_ok, Sem.run_pure, hW]) ?_
        rw [n3]
        refine wl_val (w' := W) (v := .bool true) x2 (by rw [hex2, put_at (by rw [hS.sz]; exact k1)]; rfl) ?_
        rw [x3]
        refine wp_seq (wp_cond_true (put_at (by rw [k3]; exact k2)) (wp_skip (wp_block (wp_seq (wp_region_list ?_)))))
        rw [hops]
        have hev : ((a.put (some p.d1) (.tuple #[.bool true, e.key, e.val])).put (some p.tb) (.bool true)).eval (.tmp p.i) = .pointer (some ⟨pl.1, 0, none⟩) := by
          rw [put_ne htb, put_ne hd1]; exact hnx
        have hnod : ((⟨es'⟩ : Array MapEntry).toList.map (·.born)).Nodup := by
          have h1 : (ces.map (·.born)).Nodup := by
            rw [List.nodup_iff_pairwise_ne, List.pairwise_map]
            exact hborn
          exact (hperm.map _).nodup_iff.2 h1
        have hent := run_entry_at (P := P) W pl.1 qm.1 s ⟨seen'⟩ ⟨es'⟩ clk e hWit hWmap hin hnod
        refine wl_val (w' := W) (v := .tuple #[e.key, e.val]) e2 (by rw [hex3, hev]; simp only [Sem.run_bind, hent, Result.andThen_ok, Sem.run_pure]) ?_
        rw [e3]
        have hS0 : SR V E ⟨tm2, Tr.set D st.H ia.l (some (.it (some ia.m) (stampsL ia.es) (ia.seen ++ [t]))), st.nx⟩ nt (((a.put (some p.d1) (.tuple #[.bool true, e.key, e.val])).put (some p.tb) (.bool true)).put (some p.d6) (.tuple #[e.key, e.val])) W :=
          ⟨by rw [put_defers, put_defers, put_defers]; exact hS.df, k6, k7, st0.hr⟩
        refine (evList_ok hC hcl p.ops _ _ _ _ r4).2 E _ W hS0 hn _ (fun E1 a1 w1' hS1 hst1' => ?_)
        refine evC_ok (fl := fl) hm hC hcl hcs p.rest _ _ _ _ r5 E1 a1 w1' hS1 (fun l h3 => ?_) _ (fun E2 a2 w2' hS2 hst2' => ?_)
        · rw [hst1'.out l (.inr h3)]
          exact hn l (Nat.le_trans hst1.1 h3)
        · have hstep := st0.trans (hst1'.trans hst2')
          have fin : Rn a2 w2' := by
            rw [← hR]
            refine explore_ok hm hC hcl hcs hp n st1 l hexp E2 a2 w2' hS2 (fun l h3 => ?_) Q (fun m st' wr hmem E3 a3 w3' hS3 hst3 => ?_)
            · rw [hstep.out l (.inr h3)]
              exact hn l (Nat.le_trans (Nat.le_trans hst1.1 hst2.1) h3)
            · exact hQ _ st' _ (hsub _ (addW_mem.2 ⟨m, wr, hmem, rfl, rfl⟩)) E3 a3 w3' hS3 (hstep.trans hst3)
          rcases r6 with rfl | rfl
          · exact fin
          · show if p.id1 = p.id1 then _ else _
            rw [if_pos rfl]
            exact fin
end
end Go.Proofs.YtigjjddblijpbaaGreatDoor.Ex
namespace Go.Proofs.YtigjjddblijpbaaGreatDoor.Ex
open Go
set_option linter.unusedSimpArgs false
set_option linter.unusedVariables false

section
variable {n0 a b : Nat}
theorem pi3_lo {l : Nat} (h : l < n0) : pi3 n0 a b l = l := by
  unfold pi3; rw [nblt, decide_eq_true h]
theorem pi3_eq (l : Nat) : pi3 n0 a b l = if l < n0 then l else if l < n0 + a then l + b else if l < n0 + a + b then l - a else l := by
  unfold pi3
  simp only [nblt]
  by_cases h1 : l < n0
  · simp [h1]
  · by_cases h2 : l < n0 + a
    · simp [h1, h2]
    · by_cases h3 : l < n0 + a + b
      · simp [h1, h2, h3]
      · simp [h1, h2, h3]
theorem pi3_hi {l : Nat} (h : n0 + a + b ≤ l) : pi3 n0 a b l = l := by
  rw [pi3_eq]; repeat' split
  all_goals omega
theorem pi3_in {l : Nat} (h1 : n0 ≤ l) (h2 : l < n0 + a + b) : n0 ≤ pi3 n0 a b l ∧ pi3 n0 a b l < n0 + a + b := by
  rw [pi3_eq]; repeat' split
  all_goals omega
theorem pi3_inj {l l' : Nat} (h : pi3 n0 a b l = pi3 n0 a b l') : l = l' := by
  rw [pi3_eq, pi3_eq] at h
  repeat' split at h
  all_goals omega
end
section
variable {Y : Sy} {E : Lb} {f : Nat → Nat}
theorem eqBo_eq {a b : Bool} (h : eqBo a b = true) : a = b := by cases a <;> cases b <;> first | rfl | cases h
theorem nb {a b : Nat} (h : Nat.beq a b = true) : a = b := Nat.eq_of_beq_eq_true h
theorem conc_c32 {E' : Lb} {j : Nat} {w : Value} : ∀ {m : Nat}, conc Y E (.complex .f32 j m) = some w → conc Y E' (.complex .f32 j m) = some w
  | 0, h => h
  | 1, h => h
  | 2, h => h
  | 3, h => h
  | n + 4, h => h
theorem eqR1_conc {v u w : Value} (h : eqR1 f v u = true) (hu : conc Y E u = some w) : conc Y (fun l => E (f l)) v = some w := by
  unfold eqR1 at h
  split at h
  · rw [eqBo_eq h]; exact hu
  · simp only [Bool.and_eq_true] at h
    rw [eqK_eq h.1, iB_eq h.2]; exact hu
  · rw [nb h]; exact hu
  · simp only [Bool.and_eq_true] at h
    rw [nb h.1, nb h.2]
    exact conc_c32 hu
  · rw [nb h]; exact hu
  · exact hu
  · simp only [Bool.and_eq_true] at h
    obtain ⟨p, hp, rfl⟩ := conc_ptr_inv hu
    rw [nb h.2]
    exact conc_ptr (by rw [nb h.1]; exact hp)
  · simp only [Bool.and_eq_true] at h
    rw [nb h.1, nb h.2]; exact hu
  · simp only [Bool.and_eq_true] at h
    obtain ⟨p, hp, rfl⟩ := conc_sl_inv hu
    rw [nb h.1.2, nb h.2.1, nb h.2.2]
    exact conc_sl (by rw [nb h.1.1]; exact hp)
  · simp only [Bool.and_eq_true] at h
    obtain ⟨p, hp, rfl⟩ := conc_sr_inv hu
    rw [nb h.1.2, nb h.2]
    exact conc_sr (by rw [nb h.1.1]; exact hp)
  · exact hu
  · obtain ⟨p, hp, rfl⟩ := conc_map_inv hu
    exact conc_map (by rw [nb h]; exact hp)
  · exact hu
  · cases h
theorem eqRL_conc : ∀ {l l' r : List Value}, eqRL f l l' = true → concL Y E l' = some r → concL Y (fun l => E (f l)) l = some r
  | [], [], r, _, h => h
  | x :: l, y :: l', r, h, h' => by
    obtain ⟨a, t, h1, h2, rfl⟩ := concL_cons h'
    unfold eqRL at h
    split at h
    · rename_i hx; exact concL_cons' (eqR1_conc hx h1) (eqRL_conc h h2)
    · cases h
  | [], _ :: _, r, h, _ => by cases h
  | _ :: _, [], r, h, _ => by cases h
theorem eqR_conc {v u w : Value} (h : eqR f v u = true) (hu : conc Y E u = some w) : conc Y (fun l => E (f l)) v = some w := by
  unfold eqR at h
  split at h
  · obtain ⟨l', h1, rfl⟩ := conc_agg_inv hu
    exact conc_agg (eqRL_conc h h1)
  · obtain ⟨l', h1, rfl⟩ := conc_tuple_inv hu
    exact conc_tuple (eqRL_conc h h1)
  · exact eqR1_conc h hu
theorem takeE_conc {k v : Value} {t : Nat} : ∀ {es r : List (Value × Value × Nat)} {ces : List MapEntry}, takeE f k v t es = some r → concM Y E es = some ces →
    ∃ e cr, conc Y (fun l => E (f l)) k = some e.key ∧ conc Y (fun l => E (f l)) v = some e.val ∧ (∃ p, E (f t) = some p ∧ p.2 = e.born) ∧ concM Y E r = some cr ∧ (e :: cr).Perm ces
  | [], r, ces, h, _ => by cases h
  | (k', v', t') :: es, r, ces, h, hc => by
    obtain ⟨k2, v2, p, es', h1, h2, h3, h4, rfl⟩ := concM_cons hc
    unfold takeE at h
    split at h
    · rename_i hb
      cases h
      simp only [Bool.and_eq_true] at hb
      exact ⟨⟨k2, v2, p.2⟩, es', eqR_conc hb.2.1 h1, eqR_conc hb.2.2 h2, ⟨p, by rw [nb hb.1]; exact h3, rfl⟩, h4, List.Perm.refl _⟩
    · split at h
      · cases h
      · rename_i r' hr
        cases h
        obtain ⟨e, cr, g1, g2, g3, g4, g5⟩ := takeE_conc hr h4
        exact ⟨e, _, g1, g2, g3, concM_cons' h1 h2 h3 g4, (List.Perm.swap _ _ _).trans (g5.cons _)⟩
theorem eqM_conc : ∀ {es es' : List (Value × Value × Nat)} {ces' : List MapEntry}, eqM f es es' = true → concM Y E es' = some ces' → ∃ ces, concM Y (fun l => E (f l)) es = some ces ∧ ces.Perm ces'
  | [], es', ces', h, hc => by
    unfold eqM isNil at h
    split at h
    · cases hc; exact ⟨[], rfl, List.Perm.refl _⟩
    · cases h
  | (k, v, t) :: es, es', ces', h, hc => by
    unfold eqM at h
    split at h
    · cases h
    · rename_i r hr
      obtain ⟨e, cr, g1, g2, ⟨p, g3, g3'⟩, g4, g5⟩ := takeE_conc hr hc
      obtain ⟨ces, h1, h2⟩ := eqM_conc h g4
      refine ⟨⟨e.key, e.val, p.2⟩ :: ces, concM_cons' g1 g2 g3 h1, ?_⟩
      rw [g3']
      exact (h2.cons _).trans g5
theorem eqAO_holds {p : Nat × Nat} {w : World} {o o' : AO} (h : eqAO f o o' = true) (hh : Holds Y E p w o') : Holds Y (fun l => E (f l)) p w o := by
  unfold eqAO at h
  split at h
  · simp only [Bool.and_eq_true] at h
    obtain ⟨l', h1, h2⟩ := hh
    exact ⟨l', eqRL_conc h.1 h1, by rw [nb h.2]; exact h2⟩
  · simp only [Bool.and_eq_true] at h
    obtain ⟨l', rest, h1, h2, h3⟩ := hh
    exact ⟨l', rest, eqRL_conc h.1 h1, by rw [nb h.2.1]; exact h2, by rw [nb h.2.2]; exact h3⟩
  · obtain ⟨es', ces', c, h1, h2, h3, h4, h5, h6⟩ := hh
    obtain ⟨ces, g1, g2⟩ := eqM_conc h h2
    refine ⟨es', ces, c, h1, g1, h3.trans g2.symm, ?_, ?_, fun e he => h6 e (g2.mem_iff.1 he)⟩
    · exact (g2.pairwise_iff (fun {a b} h => fun e => h e.symm)).2 h4
    · exact (g2.pairwise_iff (fun {a b} h => fun e => h e.symm)).2 h5
  · cases h
theorem agree_spec {H' : Hp} {l : Nat} {o : AO} (h : agree f H' l o = true) : ∃ o', H'.get (f l) = some o' ∧ eqAO f o o' = true := by
  unfold agree at h
  split at h
  · rename_i o' ho; exact ⟨o', ho, h⟩
  · cases h
theorem keep1_get {H H' : Hp} {l k : Nat} {o : AO} (h : (keep1 f H' H l).get k = some o) : H.get k = some o ∧ (k = l → agree f H' k o = true) := by
  unfold keep1 at h
  split at h
  · rename_i hn
    exact ⟨h, fun e => by subst e; rw [hn] at h; cases h⟩
  · rename_i o1 ho
    split at h
    · rename_i ha
      exact ⟨h, fun e => by subst e; rw [ho] at h; cases h; exact ha⟩
    · rcases Tr.get_set _ _ _ _ _ _ h with ⟨_, e⟩ | ⟨h1, h2⟩
      · cases e
      · exact ⟨h2, fun e => absurd e h1⟩
theorem keepLs_get {H' : Hp} {k : Nat} {o : AO} : ∀ {ls : List Nat} {H : Hp}, (keepLs f H' ls H).get k = some o → H.get k = some o ∧ (k ∈ ls → agree f H' k o = true)
  | [], H, h => ⟨h, fun h => by cases h⟩
  | l :: ls, H, h => by
    obtain ⟨h1, h2⟩ := keepLs_get (ls := ls) h
    obtain ⟨h3, h4⟩ := keep1_get h1
    exact ⟨h3, fun hm => by
      cases hm with
      | head => exact h4 rfl
      | tail _ hm => exact h2 hm⟩
theorem keepRg_get {H' : Hp} {k : Nat} {o : AO} : ∀ {c n : Nat} {H : Hp}, (keepRg f H' n c H).get k = some o → H.get k = some o ∧ (n ≤ k → k < n + c → agree f H' k o = true)
  | 0, n, H, h => ⟨h, fun h1 h2 => by omega⟩
  | c + 1, n, H, h => by
    obtain ⟨h1, h2⟩ := keepRg_get (c := c) (n := n + 1) h
    obtain ⟨h3, h4⟩ := keep1_get h1
    exact ⟨h3, fun h5 h6 => by
      by_cases e : k = n
      · exact h4 e
      · exact h2 (by omega) (by omega)⟩
theorem keepTm_get {tm' tm : Tr Value} {k : Nat} {v : Value} : ∀ {t : Nat} {r : Tr Value}, (keepTm f tm' t tm r).get k = some v → r.get k = some v ∨ ∃ u, tm.get k = some v ∧ tm'.get k = some u ∧ eqR f v u = true
  | 0, r, h => .inl h
  | t + 1, r, h => by
    unfold keepTm at h
    split at h
    · rename_i v1 u1 h1 h2
      split at h
      · rename_i he
        rcases keepTm_get (t := t) h with h3 | h3
        · rcases Tr.get_set _ _ _ _ _ _ h3 with ⟨rfl, e⟩ | ⟨_, h4⟩
          · cases e; exact .inr ⟨u1, h1, h2, he⟩
          · exact .inl h4
        · exact .inr h3
      · exact keepTm_get (t := t) h
    · exact keepTm_get (t := t) h
theorem oldW_mem {n : Nat} : ∀ {ls : List Nat} {l : Nat}, l ∈ oldW n ls ↔ l ∈ ls ∧ l < n
  | [], l => by simp [oldW]
  | k :: ls, l => by
    unfold oldW
    split
    · rename_i h
      rw [nblt] at h
      have h := of_decide_eq_true h
      rw [List.mem_cons, oldW_mem (ls := ls), List.mem_cons]
      constructor
      · rintro (rfl | ⟨h1, h2⟩)
        · exact ⟨.inl rfl, h⟩
        · exact ⟨.inr h1, h2⟩
      · rintro ⟨rfl | h1, h2⟩
        · exact .inl rfl
        · exact .inr ⟨h1, h2⟩
    · rename_i h
      rw [nblt] at h
      have h := of_decide_eq_false h
      rw [oldW_mem (ls := ls), List.mem_cons]
      constructor
      · rintro ⟨h1, h2⟩; exact ⟨.inr h1, h2⟩
      · rintro ⟨rfl | h1, h2⟩
        · exact absurd h2 h
        · exact ⟨h1, h2⟩
end
section
variable {V : Ev} {cl : Cl} {C : Cx} {P : Program} {nt fl : Nat}
/-- The other outcome, with its new names in the first one's order. -/
theorem merge_other {st s s' : St} {m m' : Nat} {wr wr' : List Nat} {r : St} {wr2 : List Nat} (h : merge2 nt st.nx (m, s, wr) (m', s', wr') = some (r, wr2)) (hs : Syn st.H st.nx s.H s.nx wr)
    {E Eb : Lb} {a a' : Act} {w w' : World} (hS : SR V E st nt a w) (hn : ∀ l, st.nx ≤ l → E l = none) (hS' : SR V Eb s' nt a' w') (hst : Step V E st.H st.nx w Eb s'.H s'.nx wr' w') :
    ∃ E', SR V E' r nt a' w' ∧ Step V E st.H st.nx w E' r.H r.nx wr2 w' := by
  unfold merge2 at h
  simp only at h
  split at h
  · cases h
  · rename_i hb
    cases h
    simp only [Bool.and_eq_true] at hb
    obtain ⟨⟨hx, hx'⟩, hw1, hw2⟩ := hb
    have hx := nb hx
    have hx' := nb hx'
    generalize ha : m - st.nx = A at *
    generalize hb : m' - st.nx = B at *
    obtain ⟨f, hf⟩ : ∃ f, pi3 st.nx A B = f := ⟨_, rfl⟩
    rw [hf]
    have fLo : ∀ l, l < st.nx → f l = l := fun l h => by rw [← hf]; exact pi3_lo h
    have fHi : ∀ l, s.nx ≤ l → f l = l := fun l h => by rw [← hf]; exact pi3_hi (by omega)
    have fIn : ∀ l, st.nx ≤ l → l < s.nx → st.nx ≤ f l ∧ f l < s.nx := fun l h1 h2 => by
      rw [← hf, hx]; exact pi3_in h1 (by omega)
    have fInj : ∀ l l', f l = f l' → l = l' := fun l l' h => by rw [← hf] at h; exact pi3_inj h
    have w12 : ∀ l, l < st.nx → (l ∈ wr ↔ l ∈ wr') := fun l hl => ⟨fun h => subL_spec hw1 l (oldW_mem.2 ⟨h, hl⟩), fun h => subL_spec hw2 l (oldW_mem.2 ⟨h, hl⟩)⟩
    have hx2 : Ext E (fun l => Eb (f l)) := fun l p hl => by
      have : l < st.nx := by
        by_cases h : l < st.nx
        · exact h
        · rw [hn l (by omega)] at hl; cases hl
      show Eb (f l) = some p
      rw [fLo l this]
      exact hst.ext l p hl
    have out : ∀ l, (l < st.nx ∨ s.nx ≤ l) → Eb (f l) = E l := fun l hl => by
      rcases hl with hl | hl
      · rw [fLo l hl]; exact hst.out l (.inl hl)
      · rw [fHi l hl]; exact hst.out l (.inr (by omega))
    -- the facts that are left
    have facts : ∀ l o, (keepLs f s'.H wr (keepRg f s'.H st.nx (s.nx - st.nx) s.H)).get l = some o →
        (∃ o', s'.H.get (f l) = some o' ∧ eqAO f o o' = true ∧ (l ∈ wr ∨ (st.nx ≤ l ∧ l < s.nx))) ∨ (st.H.get l = some o ∧ l ∉ wr ∧ l < st.nx) := fun l o hl => by
      obtain ⟨h1, h2⟩ := keepLs_get hl
      obtain ⟨h3, h4⟩ := keepRg_get h1
      by_cases hm : l ∈ wr
      · obtain ⟨o', h5, h6⟩ := agree_spec (h2 hm)
        exact .inl ⟨o', h5, h6, .inl hm⟩
      · by_cases hr : st.nx ≤ l ∧ l < s.nx
        · obtain ⟨o', h5, h6⟩ := agree_spec (h4 hr.1 (by omega))
          exact .inl ⟨o', h5, h6, .inr hr⟩
        · have h5 := hs l o h3 hm (by omega)
          refine .inr ⟨h5, hm, ?_⟩
          obtain ⟨p, hp, _⟩ := hS.hr.has l o h5
          by_cases h : l < st.nx
          · exact h
          · rw [hn l (by omega)] at hp; cases hp
    have old : ∀ l o, st.H.get l = some o → l ∉ wr → l < st.nx → ∃ p, E l = some p ∧ Eb (f l) = some p ∧ p.1 < w.heap.size ∧ Holds V.Y (fun l => Eb (f l)) p w' o := fun l o ho hm hl => by
      obtain ⟨p, h1, h2⟩ := hS.hr.has l o ho
      refine ⟨p, h1, hx2 l p h1, h2.lt, (h2.ext hx2).of_block (hst.fr p.1 h2.lt (fun k q hk hkn hq e => ?_))⟩
      obtain ⟨o2, ho2⟩ := hst.wl k hk hkn
      have := hS.hr.inj k l o2 o q p ho2 ho hq h1 e
      subst this
      exact hm ((w12 k hkn).2 hk)
    have hHR : HR V (fun l => Eb (f l)) (keepLs f s'.H wr (keepRg f s'.H st.nx (s.nx - st.nx) s.H)) w' := by
      refine ⟨fun l o hl => ?_, fun l l' o o' p p' hl hl' hp hp' e => ?_, fun l o p hl hp => ?_, hst.hr.sz, hst.hr.k⟩
      · rcases facts l o hl with ⟨o', h1, h2, _⟩ | ⟨h1, h2, h3⟩
        · obtain ⟨p, h4, h5⟩ := hst.hr.has _ _ h1
          exact ⟨p, h4, eqAO_holds h2 h5⟩
        · obtain ⟨p, _, h4, _, h5⟩ := old l o h1 h2 h3
          exact ⟨p, h4, h5⟩
      · have mixed : ∀ l l' o o' p p', s'.H.get (f l) = some o → (l ∈ wr ∨ (st.nx ≤ l ∧ l < s.nx)) → st.H.get l' = some o' → l' ∉ wr → l' < st.nx → Eb (f l) = some p → Eb (f l') = some p' → p.1 = p'.1 → l = l' := fun l l' o o' p p' ho ht ho' hm' hl' hp hp' e => by
          obtain ⟨p2, g1, g2, g3, _⟩ := old l' o' ho' hm' hl'
          rw [hp'] at g2; cases g2
          by_cases hl : l < st.nx
          · have hm : l ∈ wr := by
              rcases ht with ht | ht
              · exact ht
              · omega
            obtain ⟨o3, h3⟩ := hst.wl l ((w12 l hl).1 hm) hl
            rw [out l (.inl hl)] at hp
            exact hS.hr.inj l l' o3 o' p p' h3 ho' hp g1 e
          · by_cases hl2 : l < s.nx
            · obtain ⟨f1, f2⟩ := fIn l (by omega) hl2
              rcases hst.nw (f l) p f1 (by omega) hp with h3 | ⟨k, q, h3, h4, h5, h6⟩
              · omega
              · obtain ⟨o3, h7⟩ := hst.wl k h3 h4
                have := hS.hr.inj k l' o3 o' q p' h7 ho' h5 g1 (h6.trans e)
                subst this
                exact absurd ((w12 k h4).2 h3) hm'
            · rw [out l (.inr (by omega)), hn l (by omega)] at hp
              cases hp
        rcases facts l o hl with ⟨o1, h1, h2, h3⟩ | ⟨h1, h2, h3⟩ <;> rcases facts l' o' hl' with ⟨o1', h1', h2', h3'⟩ | ⟨h1', h2', h3'⟩
        · exact fInj _ _ (hst.hr.inj _ _ o1 o1' p p' h1 h1' hp hp' e)
        · exact mixed l l' o1 o' p p' h1 h3 h1' h2' h3' hp hp' e
        · exact (mixed l' l o1' o p' p h1' h3' h1 h2 h3 hp' hp e.symm).symm
        · obtain ⟨q, g1, g2, _⟩ := old l o h1 h2 h3
          obtain ⟨q', g1', g2', _⟩ := old l' o' h1' h2' h3'
          rw [hp] at g2; cases g2
          rw [hp'] at g2'; cases g2'
          exact hS.hr.inj l l' o o' p p' h1 h1' g1 g1' e
      · rcases facts l o hl with ⟨o', h1, h2, _⟩ | ⟨h1, h2, h3⟩
        · exact hst.hr.low _ _ p h1 hp
        · obtain ⟨q, g1, g2, _⟩ := old l o h1 h2 h3
          rw [hp] at g2; cases g2
          exact hS.hr.low l o p h1 g1
    refine ⟨fun l => Eb (f l), ⟨hS'.df, hS'.sz, fun t v hv => ?_, hHR⟩, hx2, fun l hl => out l hl, ?_, hHR, fun l hl hln => hst.wl l ((w12 l hln).1 hl) hln, fun c hc hne => hst.fr c hc (fun l p hl hln => hne l p ((w12 l hln).2 hl) hln), fun l p h1 h2 hp => ?_, fun l o hl hm ho => ?_, hst.os, hst.tape, hst.output, hst.size⟩
    · rcases keepTm_get hv with h1 | ⟨u, _, h2, h3⟩
      · cases h1
      · obtain ⟨u', h4, h5⟩ := hS'.tm t u h2
        exact ⟨u', eqR_conc h3 h4, h5⟩
    · have := hst.le; show st.nx ≤ s.nx; omega
    · have h2 : l < s.nx := h2
      obtain ⟨f1, f2⟩ := fIn l h1 h2
      rcases hst.nw (f l) p f1 (by omega) hp with h3 | ⟨k, q, h3, h4, h5⟩
      · exact .inl h3
      · exact .inr ⟨k, q, (w12 k h4).2 h3, h4, h5⟩
    · exact hs l o (keepRg_get (keepLs_get hl).1).1 hm ho
/-- The first outcome, of which less is known. -/
theorem merge_first {st s s' : St} {m m' : Nat} {wr wr' : List Nat} {r : St} {wr2 : List Nat} (h : merge2 nt st.nx (m, s, wr) (m', s', wr') = some (r, wr2)) :
    wr2 = wr ∧ r.nx = s.nx ∧ (∀ l o, r.H.get l = some o → s.H.get l = some o) ∧ ∀ t v, r.tm.get t = some v → s.tm.get t = some v := by
  unfold merge2 at h
  simp only at h
  split at h
  · cases h
  · cases h
    refine ⟨rfl, rfl, fun l o hl => (keepRg_get (keepLs_get hl).1).1, fun t v hv => ?_⟩
    rcases keepTm_get hv with h1 | ⟨u, h2, _⟩
    · cases h1
    · exact h2
theorem mapL_static (hcs : ClS cl) {b : Code} {f : St → Out} (hf : CSt f) : CSt (mapL cl C P nt fl b f) := fun st x st' wr h => by
  unfold mapL at h
  split at h
  · exact cSt_iter hf fl _ _ _ _ h
  · rename_i p hp
    split at h
    · rename_i m s w he
      cases h
      obtain ⟨h1, h2, h3⟩ := explore_static hcs 4 st _ he _ _ _ (List.mem_cons_self ..)
      exact ⟨Nat.le_trans h1 h2, h3⟩
    · rename_i y z he
      split at h
      · rename_i s w hm
        cases h
        obtain ⟨m, s, w⟩ := y
        obtain ⟨m', s', w'⟩ := z
        obtain ⟨h1, h2, h3⟩ := explore_static hcs 4 st _ he _ _ _ (List.mem_cons_self ..)
        obtain ⟨rfl, g2, g3, _⟩ := merge_first hm
        refine ⟨by rw [g2]; exact Nat.le_trans h1 h2, fun l o hl => by rw [g2]; exact h3 l o (g3 l o hl)⟩
      · cases h
    · cases h
theorem mapL_ok (hm : P.follows .mixedOrders = true) (hC : CxOK C P V.Y) (hcl : ClOK V P cl) (hcs : ClS cl) {b : Code} {f : St → Out} (hf : CSt f) (ih : COK V P nt b f) : COK V P nt (.loop b) (mapL cl C P nt fl b f) := by
  intro st x st' wr h E a w hS hn Q hQ
  unfold mapL at h
  split at h
  · exact loop_ok hf ih st x st' wr h E a w hS hn Q hQ
  · rename_i p hp
    split at h
    · rename_i m s wr0 he
      cases h
      refine wp_loop_rounds 4 (explore_ok hm hC hcl hcs hp 4 st _ he E a w hS hn Q (fun m1 s1 w1 hmem E' a' w' hS' hst => ?_))
      rw [List.mem_singleton] at hmem
      cases hmem
      exact hQ E' a' w' hS' hst
    · rename_i y z he
      split at h
      · rename_i s wr0 hmg
        cases h
        obtain ⟨m, s1, wr1⟩ := y
        obtain ⟨m', s2, wr2⟩ := z
        have hst1 := explore_static hcs 4 st _ he _ _ _ (List.mem_cons_self ..)
        refine wp_loop_rounds 4 (explore_ok hm hC hcl hcs hp 4 st _ he E a w hS hn Q (fun m1 s3 w1 hmem E' a' w' hS' hst => ?_))
        rcases List.mem_cons.1 hmem with e | hmem
        · cases e
          obtain ⟨rfl, g2, g3, g4⟩ := merge_first hmg
          refine hQ E' a' w' ⟨hS'.df, hS'.sz, fun t v hv => hS'.tm t v (g4 t v hv), hS'.hr.sub g3⟩ ?_
          rw [g2]
          exact hst.less g3
        · rw [List.mem_singleton] at hmem
          cases hmem
          obtain ⟨E2, k1, k2⟩ := merge_other hmg hst1.2.2 hS hn hS' hst
          exact hQ E2 a' w' k1 k2
      · cases h
    · cases h
theorem evC1_static (hcs : ClS cl) : ∀ (c : Code), CSt (evC1 cl C P nt fl c) := evX_static (fun b f hf => mapL_static hcs hf) hcs
theorem evC1_ok (hm : P.follows .mixedOrders = true) (hC : CxOK C P V.Y) (hcl : ClOK V P cl) (hcs : ClS cl) : ∀ (c : Code), COK V P nt c (evC1 cl C P nt fl c) := evX_ok (fun b f hf => mapL_static hcs hf) (fun b f hf h => mapL_ok hm hC hcl hcs hf h) hm hC hcl hcs
end
end Go.Proofs.YtigjjddblijpbaaGreatDoor.Ex
namespace Go.Proofs.YtigjjddblijpbaaGreatDoor.Ex
open Go
set_option linter.unusedSimpArgs false
set_option linter.unusedVariables false

section
variable {Y : Sy} {E E' : Lb} {nx : Nat}
theorem old1_conc (hE : ∀ l, l < nx → E' l = E l) {v v' : Value} (h : old1 nx v = true) (hc : conc Y E' v = some v') : conc Y E v = some v' := by
  unfold old1 at h
  split at h
  all_goals first
    | exact hc
    | (cases h; done)
    | skip
  · unfold conc at hc ⊢
    split at hc <;> first | exact hc | (cases hc; done) | (cases h; done)
  · rename_i a
    obtain ⟨l, o, _ | s⟩ := a
    · obtain ⟨p, hp, rfl⟩ := conc_ptr_inv hc
      rw [nblt] at h
      rw [hE l (of_decide_eq_true h)] at hp
      exact conc_ptr hp
    · unfold conc at hc; cases hc
  · rename_i a n c
    obtain ⟨l, o, _ | s⟩ := a
    · obtain ⟨p, hp, rfl⟩ := conc_sl_inv hc
      rw [nblt] at h
      rw [hE l (of_decide_eq_true h)] at hp
      exact conc_sl hp
    · obtain ⟨p, hp, rfl⟩ := conc_sr_inv hc
      rw [nblt] at h
      rw [hE l (of_decide_eq_true h)] at hp
      exact conc_sr hp
  · obtain ⟨p, hp, rfl⟩ := conc_map_inv hc
    rw [nblt] at h
    rw [hE _ (of_decide_eq_true h)] at hp
    exact conc_map hp
theorem oldL_conc (hE : ∀ l, l < nx → E' l = E l) : ∀ {l l' : List Value}, oldL nx l = true → concL Y E' l = some l' → concL Y E l = some l'
  | [], l', _, hc => hc
  | v :: l, l', h, hc => by
    obtain ⟨a, t, h1, h2, rfl⟩ := concL_cons hc
    unfold oldL at h
    split at h
    · rename_i hv; exact concL_cons' (old1_conc hE hv h1) (oldL_conc hE h h2)
    · cases h
theorem old2_conc (hE : ∀ l, l < nx → E' l = E l) {v v' : Value} (h : old2 nx v = true) (hc : conc Y E' v = some v') : conc Y E v = some v' := by
  unfold old2 at h
  split at h
  · obtain ⟨l', h1, rfl⟩ := conc_agg_inv hc
    exact conc_agg (oldL_conc hE h h1)
  · exact old1_conc hE h hc
theorem oldT_conc (hE : ∀ l, l < nx → E' l = E l) : ∀ {l l' : List Value}, oldT nx l = true → concL Y E' l = some l' → concL Y E l = some l'
  | [], l', _, hc => hc
  | v :: l, l', h, hc => by
    obtain ⟨a, t, h1, h2, rfl⟩ := concL_cons hc
    unfold oldT at h
    split at h
    · rename_i hv; exact concL_cons' (old2_conc hE hv h1) (oldT_conc hE h h2)
    · cases h
theorem oldV_conc (hE : ∀ l, l < nx → E' l = E l) {v v' : Value} (h : oldV nx v = true) (hc : conc Y E' v = some v') : conc Y E v = some v' := by
  unfold oldV at h
  split at h
  · obtain ⟨l', h1, rfl⟩ := conc_tuple_inv hc
    exact conc_tuple (oldT_conc hE h h1)
  · exact old2_conc hE h hc
theorem keepOld_iff {n' : Nat} {l : Nat} : ∀ {ls : List Nat}, l ∈ keepOld nx n' ls ↔ l ∈ ls ∧ (l < nx ∨ n' ≤ l)
  | [] => by simp [keepOld]
  | k :: ls => by
    unfold keepOld
    split
    · rename_i hb
      rw [nble, nblt, Bool.and_eq_false_iff, decide_eq_false_iff_not, decide_eq_false_iff_not] at hb
      rw [List.mem_cons, keepOld_iff (ls := ls), List.mem_cons]
      constructor
      · rintro (rfl | ⟨h1, h2⟩)
        · exact ⟨.inl rfl, by omega⟩
        · exact ⟨.inr h1, h2⟩
      · rintro ⟨rfl | h1, h2⟩
        · exact .inl rfl
        · exact .inr ⟨h1, h2⟩
    · rename_i hb
      rw [nble, nblt, Bool.and_eq_true, decide_eq_true_eq, decide_eq_true_eq] at hb
      rw [keepOld_iff (ls := ls), List.mem_cons]
      constructor
      · rintro ⟨h1, h2⟩
        exact ⟨.inr h1, h2⟩
      · rintro ⟨rfl | h1, h2⟩
        · omega
        · exact ⟨h1, h2⟩
end
section
variable {V : Ev} {cl : Cl} {C : Cx} {P : Program} {nt fl : Nat}
theorem back_cases {nx : Nat} {H : Hp} {v : Value} {H' : Hp} {nx' : Nat} {wr : List Nat} {r : Res} (h : back nx H v H' nx' wr = r) :
    (r = (v, H, nx, []) ∧ keepOld nx nx' wr = [] ∧ oldV nx v = true) ∨ r = (v, H', nx', keepOld nx nx' wr) := by
  unfold back at h
  split at h
  · rename_i hk
    split at h
    · rename_i ho; exact .inl ⟨h.symm, hk, ho⟩
    · exact .inr (by rw [hk]; exact h.symm)
  · exact .inr h.symm
/-- The new names may be left out of what is written. -/
theorem Step.keep {E E' : Lb} {H H' : Hp} {nx nx' : Nat} {wr : List Nat} {w w' : World} (h : Step V E H nx w E' H' nx' wr w') : Step V E H nx w E' H' nx' (keepOld nx nx' wr) w' :=
  ⟨h.ext, h.out, h.le, h.hr, fun l hl hn => h.wl l (keepOld_iff.1 hl).1 hn, fun b hb hne => h.fr b hb (fun l p hl hn => hne l p (keepOld_iff.2 ⟨hl, .inl hn⟩) hn), fun l p h1 h2 hp => (h.nw l p h1 h2 hp).imp id (fun ⟨m, q, h3, h4, h5⟩ => ⟨m, q, keepOld_iff.2 ⟨h3, .inl h4⟩, h4, h5⟩),
    fun l o hl hm hn => h.syn l o hl (fun hm' => hm (keepOld_iff.2 ⟨hm', by omega⟩)) hn, h.os, h.tape, h.output, h.size⟩
/-- A call that leaves no more than a value. -/
theorem Step.pure {E E' : Lb} {H H' : Hp} {nx nx' : Nat} {wr : List Nat} {w w' : World} (hH : HR V E H w) (h : Step V E H nx w E' H' nx' wr w') (hk : keepOld nx nx' wr = []) : Step V E H nx w E H nx [] w' := by
  have hb : ∀ b, b < w.heap.size → w'.heap[b]? = w.heap[b]? := fun b hb => h.fr b hb (fun l p hl hn => by
    have : l ∈ keepOld nx nx' wr := keepOld_iff.2 ⟨hl, .inl hn⟩
    rw [hk] at this; cases this)
  refine ⟨Ext.refl E, fun _ _ => rfl, Nat.le_refl _, ⟨fun l o hl => ?_, hH.inj, hH.low, h.hr.sz, h.hr.k⟩, fun l hl => (by cases hl), fun b hb' _ => hb b hb', fun l p h1 h2 => (by omega), fun _ _ h _ _ => h, h.os, h.tape, h.output, h.size⟩
  obtain ⟨p, h1, h2⟩ := hH.has l o hl
  exact ⟨p, h1, h2.of_block (hb _ h2.lt)⟩
theorem initT_get : ∀ (l : List Value) (i : Nat) (tm : Tr Value) (t : Nat) (v : Value), (initT l i tm).get t = some v → (∃ k, l[k]? = some v ∧ t = i + k) ∨ tm.get t = some v
  | [], i, tm, t, v, h => .inr h
  | x :: l, i, tm, t, v, h => by
    have h : (initT l (i + 1) (Tr.set D tm i (some x))).get t = some v := h
    rcases initT_get l _ _ t v h with ⟨k, h1, h2⟩ | h1
    · exact .inl ⟨k + 1, by simpa using h1, by omega⟩
    · rcases Tr.get_set _ _ _ _ _ _ h1 with ⟨rfl, e⟩ | ⟨_, h2⟩
      · exact .inl ⟨0, by simpa using e, rfl⟩
      · exact .inr h2
def resM (a : Array Value) : ResultVar → Sem Value
  | .tmp t => pure (a.getD t undef)
  | .cell x t => do loadVar t (← asAddr (a.getD x undef))
theorem resL_run {E : Lb} {tm : Tr Value} {H : Hp} {a : Array Value} {w : World} (ht : ∀ t v, tm.get t = some v → ∃ v', conc V.Y E v = some v' ∧ a[t]? = some v') (hH : HR V E H w) : ∀ (rs : List ResultVar) (vs : List Value), resL P tm H rs = some vs →
    ∃ vs', concL V.Y E vs = some vs' ∧ (rs.mapM (resM a)).run P w = .ok vs' w
  | [], vs, h => by cases h; exact ⟨[], rfl, rfl⟩
  | .tmp t :: rs, vs, h => by
    unfold resL at h
    split at h
    · cases h
    · rename_i v hv
      split at h
      · cases h
      · rename_i vs0 h0
        cases h
        obtain ⟨vs', h1, h2⟩ := resL_run ht hH rs vs0 h0
        obtain ⟨v', h3, h4⟩ := ht t v hv
        refine ⟨v' :: vs', concL_cons' h3 h1, ?_⟩
        simp [List.mapM_cons, Sem.run_bind, resM, h4, h2]
  | .cell x T :: rs, vs, h => by
    unfold resL at h
    split at h
    · rename_i l i hx
      split at h
      · rename_i cs T0 hl
        split at h
        · cases h
        · rename_i v hv
          split at h
          · cases h
          · rename_i vs0 h0
            cases h
            obtain ⟨vs', h1, h2⟩ := resL_run ht hH rs vs0 h0
            obtain ⟨x', h3, h4⟩ := ht x _ hx
            obtain ⟨p, h5, rfl⟩ := conc_ptr_inv h3
            obtain ⟨q, h6, h7⟩ := hH.has l _ hl
            rw [h5] at h6; cases h6
            obtain ⟨cs', h8, h9⟩ := h7
            obtain ⟨v', k1, k2⟩ := loadL_run (b := p.1) (w := w) hv h8 (fun j u hj => by
              simp [World.cell?, h9, hj])
            refine ⟨v' :: vs', concL_cons' k1 h1, ?_⟩
            simp [List.mapM_cons, Sem.run_bind, resM, h4, h2, asAddr, k2]
      · cases h
    · cases h
theorem oneV_conc {E : Lb} {vs vs' : List Value} (h : concL V.Y E vs = some vs') : conc V.Y E (oneV vs) = some (oneV vs') := by
  have hl := concL_len h
  match vs, vs', h, hl with
  | [], [], h, _ => exact conc_tuple h
  | [v], [v'], h, _ =>
    obtain ⟨a, t, h1, h2, e⟩ := concL_cons h
    cases e
    exact h1
  | v :: u :: l, v' :: u' :: l', h, _ => exact conc_tuple h
theorem results_run {fn : Func} {a : Array Value} {w : World} {vs' : List Value} (h : (fn.results.toList.mapM (resM a)).run P w = .ok vs' w) : (results fn a).run P w = .ok (oneV vs') w := by
  have e : results fn a = (do
      let vs ← fn.results.mapM (resM a)
      pure (if h : vs.size = 1 then vs[0] else .tuple vs)) := by
    unfold results
    congr 1
  rw [e, Array.mapM_eq_mapM_toList]
  simp only [Sem.run_bind, map_eq_pure_bind, h, Sem.run_pure, Result.andThen_ok]
  match vs' with
  | [] => rfl
  | [v] => rfl
  | v :: u :: l => simp [oneV]
/-- Which functions a call enters. -/
def Enters (P : Program) : Prop := ∀ f fn c, P.funcs[f]? = some fn → fn.body = some c → ∀ args w, (callFunc f args).run P w = .ok (.enter f args) w
theorem callF_static (hcs : ClS cl) : ClS (callF cl C P fl) := fun f args H nx v H' nx' wr h => by
  unfold callF at h
  split at h
  · cases h
  · split at h
    · cases h
    · split at h
      · cases h
      · split at h
        · cases h
        · cases h
        · rename_i x st wr0 hne hev
          split at h
          · cases h
          · rename_i vs hvs
            have hs := evC1_static hcs _ _ _ _ _ hev
            rcases back_cases (Option.some.inj h) with ⟨e, _, _⟩ | e
            · cases e; exact ⟨Nat.le_refl _, Syn.refl _ _ _ _⟩
            · cases e
              refine ⟨hs.1, fun l o hl hm hn => hs.2 l o hl (fun hm' => hm (keepOld_iff.2 ⟨hm', hn⟩)) hn⟩
theorem callF_ok (hm : P.follows .mixedOrders = true) (hent : Enters P) (hC : CxOK C P V.Y) (hcl : ClOK V P cl) (hcs : ClS cl) : ClOK V P (callF cl C P fl) := fun f args H nx v0 H' nx' wr h => by
  have hst := callF_static hcs f args H nx v0 H' nx' wr h
  unfold callF at h
  split at h
  · cases h
  · rename_i fn hf
    rw [nth_eq, Array.getElem?_toList] at hf
    split at h
    · cases h
    · rename_i c hb
      refine ⟨hst.1, fun args' w => hent f fn c hf hb _ w, fun E w args' hH hn ha => ?_⟩
      split at h
      · cases h
      · rename_i hle
        rw [nble] at hle
        have hle := of_decide_eq_true hle
        split at h
        · cases h
        · cases h
        · rename_i x st wr0 hne hev
          split at h
          · cases h
          · rename_i vs hvs
            have hs := evC1_static hcs _ _ _ _ _ hev
            have hlen := concL_len ha
            have hsz : args.length = args'.length := hlen.symm
            refine calls_of_wp hf hb (evC1_ok hm hC hcl hcs c _ _ _ _ hev E _ w ⟨rfl, ?_, fun t v hv => ?_, hH⟩ hn _ (fun E' a' w' hS' hst' => ?_))
            · simp; omega
            · rcases initT_get _ _ _ _ _ hv with ⟨k, h1, h2⟩ | h1
              · obtain ⟨v', h3, h4⟩ := concL_get ha k v h1
                refine ⟨v', h4, ?_⟩
                have hk := (List.getElem?_eq_some_iff.1 h3).1
                rw [Nat.zero_add] at h2
                subst h2
                rw [Array.getElem?_append_left (by simpa using hk)]
                simpa using h3
              · cases h1
            · obtain ⟨vs', h1, h2⟩ := resL_run hS'.tm hS'.hr fn.results.toList vs hvs
              have h3 := results_run h2
              have h4 := oneV_conc h1
              have fin : ∃ v, (results fn a'.tmps).run P w' = .ok v w' ∧ ∃ v' E'', Ending.returned v = .returned v' ∧ conc V.Y E'' v0 = some v' ∧ Step V E H nx w E'' H' nx' wr w' := by
                refine ⟨oneV vs', h3, oneV vs', ?_⟩
                rcases back_cases (Option.some.inj h) with ⟨e, hk, ho⟩ | e
                · cases e
                  exact ⟨E, rfl, oldV_conc (fun l hl => hst'.out l (.inl hl)) ho h4, hst'.pure hH hk⟩
                · cases e
                  exact ⟨E', rfl, h4, hst'.keep⟩
              cases x with
              | normal => exact ⟨hS'.df, fin⟩
              | ret => exact ⟨hS'.df, fin⟩
              | exit i => exact (hne i rfl).elim
/-- What hooks leave is right. -/
def HkS (hk : Cl → Nat → List Value → Hp → Nat → Option (Option Res)) : Prop := ∀ cl, ClS cl → ∀ f args H nx v H' nx' wr, hk cl f args H nx = some (some (v, H', nx', wr)) → nx ≤ nx' ∧ Syn H nx H' nx' wr
def HkOK (V : Ev) (P : Program) (hk : Cl → Nat → List Value → Hp → Nat → Option (Option Res)) : Prop := ∀ cl, ClS cl → ClOK V P cl → ClOK V P (fun f args H nx => (hk cl f args H nx).getD none)
theorem evF_static {hk : Cl → Nat → List Value → Hp → Nat → Option (Option Res)} (hh : HkS hk) : ∀ n, ClS (evF hk C P fl n)
  | 0 => fun f args H nx v H' nx' wr h => by cases h
  | n + 1 => fun f args H nx v H' nx' wr h => by
    have h : (match hk (evF hk C P fl n) f args H nx with
      | some r => r
      | none => callF (evF hk C P fl n) C P fl f args H nx) = some (v, H', nx', wr) := h
    split at h
    · rename_i r hr
      subst h
      exact hh _ (evF_static hh n) _ _ _ _ _ _ _ _ hr
    · exact callF_static (evF_static hh n) _ _ _ _ _ _ _ _ h
theorem evF_ok {hk : Cl → Nat → List Value → Hp → Nat → Option (Option Res)} (hh : HkS hk) (hk' : HkOK V P hk) (hm : P.follows .mixedOrders = true) (hent : Enters P) (hC : CxOK C P V.Y) : ∀ n, ClOK V P (evF hk C P fl n)
  | 0 => fun f args H nx v H' nx' wr h => by cases h
  | n + 1 => fun f args H nx v H' nx' wr h => by
    have h : (match hk (evF hk C P fl n) f args H nx with
      | some r => r
      | none => callF (evF hk C P fl n) C P fl f args H nx) = some (v, H', nx', wr) := h
    split at h
    · rename_i r hr
      exact hk' _ (evF_static hh n) (evF_ok hh hk' hm hent hC n) f args H nx v H' nx' wr (by show (hk (evF hk C P fl n) f args H nx).getD none = _; rw [hr]; exact h)
    · exact callF_ok hm hent hC (evF_ok hh hk' hm hent hC n) (evF_static hh n) f args H nx v H' nx' wr h
end
end Go.Proofs.YtigjjddblijpbaaGreatDoor.Ex
namespace Go.Proofs.YtigjjddblijpbaaGreatDoor.Ex
open Go
set_option linter.unusedSimpArgs false
set_option linter.unusedVariables false

theorem names_ok : (Tryz.prog.funcs.toList.all fun fn => !(fn.name == "runtime.NumGoroutine")) = true := by kernel_rfl
theorem enters : Enters Tryz.prog := fun f fn c hf hb args w => by
  have h1 : (fn.name == "runtime.NumGoroutine") = false := by
    have := List.all_eq_true.1 names_ok fn (by
      have := Array.mem_of_getElem? hf
      simpa using this)
    simpa using this
  have hp : (program).run Tryz.prog w = .ok Tryz.prog w := rfl
  unfold callFunc
  simp only [Sem.run_bind, hp, Result.andThen_ok, hf, h1, hb, Option.isNone_some, Bool.false_eq_true, if_false, Sem.run_pure]
theorem mixed : Tryz.prog.follows .mixedOrders = true := by kernel_rfl
end Go.Proofs.YtigjjddblijpbaaGreatDoor.Ex
namespace Go.Proofs.YtigjjddblijpbaaGreatDoor
open Go.RowKit

set_option maxHeartbeats 400000 in
theorem mul64_any (x y : Nat) (hx : x < 18446744073709551616) (hy : y < 18446744073709551616) (w : World) :
    Calls Tryz.prog 150 #[.int .u64 x, .int .u64 y] w fun e w' => e = .returned (.tuple #[.int .u64 ((x * y / 18446744073709551616 : Nat) : Int), .int .u64 ((x * y % 18446744073709551616 : Nat) : Int)]) ∧ w = w' := by
  obtain ⟨bd, bt, bw, hhi⟩ := Lib.mul64_hi x y hx hy
  have ba := Lib.half_mul_le (a := x / 4294967296) (b := y / 4294967296) (by omega) (by omega)
  have bb := Lib.half_mul_le (a := x / 4294967296) (b := y % 4294967296) (by omega) (by omega)
  have bc := Lib.half_mul_le (a := x % 4294967296) (b := y / 4294967296) (by omega) (by omega)
  have ba' : x / 4294967296 * (y / 4294967296) < 18446744073709551616 := by omega
  have bb' : x / 4294967296 * (y % 4294967296) < 18446744073709551616 := by omega
  have bc' : x % 4294967296 * (y / 4294967296) < 18446744073709551616 := by omega
  have bh1 : x / 4294967296 * (y / 4294967296) + (x / 4294967296 * (y % 4294967296) + x % 4294967296 * (y % 4294967296) / 4294967296) / 4294967296 < 18446744073709551616 := by omega
  have bh : x / 4294967296 * (y / 4294967296) + (x / 4294967296 * (y % 4294967296) + x % 4294967296 * (y % 4294967296) / 4294967296) / 4294967296 + ((x / 4294967296 * (y % 4294967296) + x % 4294967296 * (y % 4294967296) / 4294967296) % 4294967296 + x % 4294967296 * (y / 4294967296)) / 4294967296 < 18446744073709551616 := by omega
  go_enter Tryz.func150, Tryz.ntmps150
  go_wp2
  simp only [Mul64.maskN x hx, Mul64.maskN y hy, Mul64.divN, Mul64.mulN, Mul64.addN, Mul64.wrapN _ bd, Mul64.wrapN _ bb', Mul64.wrapN _ bt, Mul64.maskN _ bt, Mul64.wrapN _ bc', Mul64.wrapN _ bw, Mul64.wrapN _ ba', Mul64.wrapN _ bh1, Mul64.wrapN _ bh, Mul64.wrapM (x * y)]
  rw [hhi]
  go_ret2
  exact ⟨rfl, rfl⟩

theorem wide_of (n : Int) (h1 : -9223372036854775808 ≤ n) (h2 : n ≤ 9223372036854775807) (w : World) :
    Calls Tryz.prog 114 #[.int .i64 n] w fun e w' => e = .returned (.agg #[.int .i64 (n / 18446744073709551616), .int .u64 (n % 18446744073709551616)]) ∧ Below w.heap.size w w' := by
  go_enter Tryz.func114, Tryz.ntmps114
  go_wp2
  simp [bodyPost, results, Tryz.results114, go_sem]
  exact ⟨⟨by omega, by rw [IntKind.wrap_u64]⟩, (by repeat' (first | (with_reducible exact Below.refl _ _) | (with_reducible assumption) | (with_reducible refine below_alloc ?_ _ ?_) | (with_reducible refine below_set _ ?_ ?_) | (with_reducible refine Below.drew ?_) | (with_reducible refine below_dN ?_ _) | (apply below_thenA; assumption) | omega | (simp; done) | (simp; omega) | (simp [*]; done)))⟩

/-- What Add and Neg answer. -/
def WAns (n : Int) (B : Nat) (w : World) (e : Ending) (w' : World) : Prop :=
  (WFit n → e = .returned (.tuple #[.agg #[.int .i64 (n / 18446744073709551616), .int .u64 (n % 18446744073709551616)], .bool true])) ∧ (¬ WFit n → e = .returned (.tuple #[.agg #[.int .i64 0, .int .u64 0], .bool false])) ∧ Below B w w'
def cmp3 (a b : Int) : Int := if a < b then -1 else if b < a then 1 else 0
theorem ret_wb {h l h' l' : Int} {b : Bool} (e1 : h = h') (e2 : l = l') : Ending.returned (.tuple #[.agg #[.int .i64 h, .int .u64 l], .bool b]) = .returned (.tuple #[.agg #[.int .i64 (h'), .int .u64 (l')], .bool b]) := by rw [e1, e2]
theorem not_dec {p q : Prop} [Decidable p] [Decidable q] : ((!decide p == decide q) = true) ↔ (¬ p ↔ q) := by
  by_cases p <;> by_cases q <;> simp [*]
theorem not_dec' {p q : Prop} [Decidable p] [Decidable q] : ((!decide p == decide q) = false) ↔ ¬ (¬ p ↔ q) := by
  by_cases p <;> by_cases q <;> simp [*]

set_option maxRecDepth 100000 in
set_option maxHeartbeats 400000 in
theorem wide_add (a b h1 l1 h2 l2 : Int) (ha : Wd h1 l1 a) (hb : Wd h2 l2 b) (w : World) :
    Calls Tryz.prog 113 #[.agg #[.int .i64 h1, .int .u64 l1], .agg #[.int .i64 h2, .int .u64 l2]] w (WAns (a + b) w.heap.size w) := by
  obtain ⟨a1, a2, a3, a4, a5⟩ := ha
  obtain ⟨b1, b2, b3, b4, b5⟩ := hb
  have A1 := add64_0 l1 l2 a3 b3
  have A2 := add64 (IntKind.u64.wrap h1) (IntKind.u64.wrap h2) ((l1 + l2) / 18446744073709551616) (u64n _) (u64n _) (by omega) (by omega)
  have A5 := Lib.hid a5
  have B5 := Lib.hid b5
  clear a5 b5
  go_enter Tryz.func113, Tryz.ntmps113
  go_wp2
  all_goals
    simp [bodyPost, results, Tryz.results113, go_sem]
    go_light
    clear A1 A2
    have a5 := A5.out; have b5 := B5.out
    clear A5 B5
    simp only [IntKind.wrap_u64, wrap64, not_dec, not_dec'] at *
    refine ⟨fun h => ?_, fun h => ?_, (by repeat' (first | (with_reducible exact Below.refl _ _) | (with_reducible assumption) | (with_reducible refine below_alloc ?_ _ ?_) | (with_reducible refine below_set _ ?_ ?_) | (with_reducible refine Below.drew ?_) | (with_reducible refine below_dN ?_ _) | (apply below_thenA; assumption) | omega | (simp; done) | (simp; omega) | (simp [*]; done)))⟩
    all_goals unfold WFit at h
    all_goals first
      | (exfalso; omega)
      | (refine ret_wb ?_ ?_ <;> omega)

theorem mul64_int (x y : Int) (hx0 : 0 ≤ x) (hx : x < 18446744073709551616) (hy0 : 0 ≤ y) (hy : y < 18446744073709551616) (w : World) :
    Calls Tryz.prog 150 #[.int .u64 x, .int .u64 y] w fun e w' => e = .returned (.tuple #[.int .u64 (x * y / 18446744073709551616), .int .u64 (x * y % 18446744073709551616)]) ∧ w = w' := by
  obtain ⟨x, rfl⟩ := Int.eq_ofNat_of_zero_le hx0
  obtain ⟨y, rfl⟩ := Int.eq_ofNat_of_zero_le hy0
  simpa using mul64_any x y (by omega) (by omega) w
theorem mul_bound (a b : Int) (a1 : -9223372036854775808 ≤ a) (a2 : a ≤ 9223372036854775807) (b1 : -9223372036854775808 ≤ b) (b2 : b ≤ 9223372036854775807) :
    -85070591730234615865843651857942052864 ≤ a * b ∧ a * b ≤ 85070591730234615865843651857942052864 := by
  have h := Nat.mul_le_mul (show a.natAbs ≤ 9223372036854775808 by omega) (show b.natAbs ≤ 9223372036854775808 by omega)
  rw [← Int.natAbs_mul] at h
  omega
theorem wrap_pos {n : Int} (h : 0 ≤ n) (h2 : n ≤ 9223372036854775807) : IntKind.u64.wrap n = n := by rw [IntKind.wrap_u64]; omega
theorem wrap_neg {n : Int} (h : n < 0) (h2 : -9223372036854775808 ≤ n) : IntKind.u64.wrap n = n + 18446744073709551616 := by rw [IntKind.wrap_u64]; omega
theorem u64lt (n : Int) : IntKind.u64.wrap n < 18446744073709551616 := by rw [IntKind.wrap_u64]; omega

set_option maxRecDepth 100000 in
set_option maxHeartbeats 400000 in
theorem wide_mul (a b : Int) (a1 : -9223372036854775808 ≤ a) (a2 : a ≤ 9223372036854775807) (b1 : -9223372036854775808 ≤ b) (b2 : b ≤ 9223372036854775807) (w : World) :
    Calls Tryz.prog 110 #[.int .i64 a, .int .i64 b] w fun e w' => e = .returned (.agg #[.int .i64 ((a * b) / 18446744073709551616), .int .u64 ((a * b) % 18446744073709551616)]) ∧ Below w.heap.size w w' := by
  by_cases ha : a < 0 <;> by_cases hb : b < 0
  all_goals
    go_enter Tryz.func110, Tryz.ntmps110
    go_wp2_with (go_at_call 150; refine (mul64_int _ _ (by first | omega | exact u64n _) (by first | omega | exact u64lt _) (by first | omega | exact u64n _) (by first | omega | exact u64lt _) _).mono ?_; rintro e w' ⟨rfl, rfl⟩)
    simp [bodyPost, results, Tryz.results110, go_sem]
    go_light
    have hm := mul_bound a b a1 a2 b1 b2
    refine ⟨?_, (by repeat' (first | (with_reducible exact Below.refl _ _) | (with_reducible assumption) | (with_reducible refine below_alloc ?_ _ ?_) | (with_reducible refine below_set _ ?_ ?_) | (with_reducible refine Below.drew ?_) | (with_reducible refine below_dN ?_ _) | (apply below_thenA; assumption) | omega | (simp; done) | (simp; omega) | (simp [*]; done)))⟩
    try rw [wrap_neg ha a1]
    try rw [wrap_neg hb b1]
    simp only [IntKind.wrap_u64, wrap64, Int.add_mul, Int.mul_add]
    generalize a * b = p at *
    omega
end Go.Proofs.YtigjjddblijpbaaGreatDoor
namespace Go.Proofs.YtigjjddblijpbaaGreatDoor
open Go.RowKit
set_option linter.unusedSimpArgs false
set_option linter.unusedVariables false

/-- What turned answers. -/
def WTurn (n : Int) (B : Nat) (w : World) (e : Ending) (w' : World) : Prop :=
  (WFit (-n) → e = .returned (.agg #[.int .i64 ((-n) / 18446744073709551616), .int .u64 ((-n) % 18446744073709551616)])) ∧ (¬ WFit (-n) → e = .returned (.agg #[.int .i64 (-9223372036854775808), .int .u64 0])) ∧ Below B w w'
theorem ret_w {h l h' l' : Int} (e1 : h = h') (e2 : l = l') : Ending.returned (.agg #[.int .i64 h, .int .u64 l]) = .returned (.agg #[.int .i64 (h'), .int .u64 (l')]) := by rw [e1, e2]
set_option maxRecDepth 100000 in
set_option maxHeartbeats 400000 in
theorem wide_turned (a hi lo : Int) (ha : Wd hi lo a) (w : World) :
    Calls Tryz.prog 192 #[.agg #[.int .i64 hi, .int .u64 lo]] w (WTurn a w.heap.size w) := by
  obtain ⟨a1, a2, a3, a4, a5⟩ := ha
  have A5 := Lib.hid a5
  clear a5
  have hs : IntKind.u64.signed = false := rfl
  have hm : IntKind.u64.max = 18446744073709551615 := rfl
  have N1 := u64_not lo a3 a4
  have N2 := u64_not (IntKind.u64.wrap hi) (u64n _) (u64le _)
  have A1 := add64_x0 (18446744073709551615 - lo) 1 (by omega) (by decide) (by decide)
  have A2 := add64_x0 (18446744073709551615 - IntKind.u64.wrap hi) ((18446744073709551615 - lo + 1) / 18446744073709551616) (by have := u64le hi; omega) (by omega) (by omega)
  go_enter Tryz.func192, Tryz.ntmps192
  go_wp2
  simp [bodyPost, results, Tryz.results192, go_sem]
  go_light
  clear N1 N2 A1 A2 hs hm
  have a5 := A5.out
  simp only [IntKind.wrap_u64, wrap64] at *
  refine ⟨fun h => ?_, fun h => ?_, (by repeat' (first | (with_reducible exact Below.refl _ _) | (with_reducible assumption) | (with_reducible refine below_alloc ?_ _ ?_) | (with_reducible refine below_set _ ?_ ?_) | (with_reducible refine Below.drew ?_) | (with_reducible refine below_dN ?_ _) | (apply below_thenA; assumption) | omega | (simp; done) | (simp; omega) | (simp [*]; done)))⟩
  all_goals unfold WFit at h
  all_goals (refine ret_w ?_ ?_ <;> omega)

theorem wide_turned_fit (a hi lo : Int) (ha : Wd hi lo a) (hf : WFit (-a)) (w : World) :
    Calls Tryz.prog 192 #[.agg #[.int .i64 hi, .int .u64 lo]] w fun e w' => e = .returned (.agg #[.int .i64 ((-a) / 18446744073709551616), .int .u64 ((-a) % 18446744073709551616)]) ∧ Below w.heap.size w w' :=
  (wide_turned a hi lo ha w).mono fun _ _ h => ⟨h.1 hf, h.2.2⟩
theorem wide_turned_min (a hi lo : Int) (ha : Wd hi lo a) (hf : ¬ WFit (-a)) (w : World) :
    Calls Tryz.prog 192 #[.agg #[.int .i64 hi, .int .u64 lo]] w fun e w' => e = .returned (.agg #[.int .i64 (-9223372036854775808), .int .u64 0]) ∧ Below w.heap.size w w' :=
  (wide_turned a hi lo ha w).mono fun _ _ h => ⟨h.2.1 hf, h.2.2⟩

set_option maxRecDepth 100000 in
set_option maxHeartbeats 400000 in
theorem compare_i64 (a b : Int) (w : World) :
    Calls Tryz.prog 184 #[.int .i64 a, .int .i64 b] w fun e w' => e = .returned (.int .i64 (cmp3 a b)) ∧ w = w' := by
  go_enter Tryz.func184, Tryz.ntmps184
  go_wp2
  all_goals
    go_ret
    go_light
    exact ⟨ret_int (by unfold cmp3; split <;> (try split) <;> omega), rfl⟩
def orI (x y : Int) : Int := if x = 0 then y else x
theorem cmp3_or {a b h1 l1 h2 l2 : Int} (ha : Wd h1 l1 a) (hb : Wd h2 l2 b) : orI (cmp3 h1 h2) (cmp3 l1 l2) = cmp3 a b := by
  unfold orI
  obtain ⟨a1, a2, a3, a4, a5⟩ := ha
  obtain ⟨b1, b2, b3, b4, b5⟩ := hb
  unfold cmp3
  by_cases x1 : h1 < h2
  · rw [if_pos x1, if_neg (by decide), if_pos (by omega)]
  · by_cases x2 : h2 < h1
    · rw [if_neg x1, if_pos x2, if_neg (by decide), if_neg (by omega), if_pos (by omega)]
    · rw [if_neg x1, if_neg x2, if_pos rfl]
      by_cases x3 : l1 < l2
      · rw [if_pos x3, if_pos (by omega)]
      · by_cases x4 : l2 < l1
        · rw [if_neg x3, if_pos x4, if_neg (by omega), if_pos (by omega)]
        · rw [if_neg x3, if_neg x4, if_neg (by omega), if_neg (by omega)]

end Go.Proofs.YtigjjddblijpbaaGreatDoor
namespace Go.Proofs.YtigjjddblijpbaaGreatDoor
open Go.RowKit
set_option linter.unusedSimpArgs false
set_option linter.unusedVariables false

/-- Is it an int? -/
def IFit (n : Int) : Prop := -9223372036854775808 ≤ n ∧ n ≤ 9223372036854775807
def IAns (n : Int) (B : Nat) (w : World) (e : Ending) (w' : World) : Prop :=
  (IFit n → e = .returned (.tuple #[.int .i64 n, .bool true])) ∧ (¬ IFit n → e = .returned (.tuple #[.int .i64 0, .bool false])) ∧ Below B w w'
theorem ret_ib {h h' : Int} {b : Bool} (e1 : h = h') : Ending.returned (.tuple #[.int .i64 h, .bool b]) = .returned (.tuple #[.int .i64 (h'), .bool b]) := by rw [e1]
theorem bne_t {a b : Int} : ((a != b) = true) ↔ ¬ a = b := by simp
theorem bne_f {a b : Int} : ((a != b) = false) ↔ a = b := by simp

set_option maxRecDepth 100000 in
set_option maxHeartbeats 400000 in
theorem wide_int (a hi lo : Int) (ha : Wd hi lo a) (w : World) :
    Calls Tryz.prog 111 #[.agg #[.int .i64 hi, .int .u64 lo]] w (IAns a w.heap.size w) := by
  obtain ⟨a1, a2, a3, a4, a5⟩ := ha
  have A5 := Lib.hid a5
  clear a5
  go_enter Tryz.func111, Tryz.ntmps111
  go_wp2
  all_goals
    simp [bodyPost, results, Tryz.results111, go_sem]
    go_light
    have a5 := A5.out
    simp only [wrap64, bne_t, bne_f] at *
    refine ⟨fun h => ?_, fun h => ?_, (by repeat' (first | (with_reducible exact Below.refl _ _) | (with_reducible assumption) | (with_reducible refine below_alloc ?_ _ ?_) | (with_reducible refine below_set _ ?_ ?_) | (with_reducible refine Below.drew ?_) | (with_reducible refine below_dN ?_ _) | (apply below_thenA; assumption) | omega | (simp; done) | (simp; omega) | (simp [*]; done)))⟩
    all_goals unfold IFit at *
    all_goals first
      | (exfalso; omega)
      | (refine ret_ib ?_; omega)
theorem wide_int_fit (a hi lo : Int) (ha : Wd hi lo a) (hf : IFit a) (w : World) :
    Calls Tryz.prog 111 #[.agg #[.int .i64 hi, .int .u64 lo]] w fun e w' => e = .returned (.tuple #[.int .i64 a, .bool true]) ∧ Below w.heap.size w w' :=
  (wide_int a hi lo ha w).mono fun _ _ h => ⟨h.1 hf, h.2.2⟩
theorem wide_int_no (a hi lo : Int) (ha : Wd hi lo a) (hf : ¬ IFit a) (w : World) :
    Calls Tryz.prog 111 #[.agg #[.int .i64 hi, .int .u64 lo]] w fun e w' => e = .returned (.tuple #[.int .i64 0, .bool false]) ∧ Below w.heap.size w w' :=
  (wide_int a hi lo ha w).mono fun _ _ h => ⟨h.2.1 hf, h.2.2⟩

def absI (n : Int) : Int := n.natAbs
theorem ret_uu {h l h' l' : Int} (e1 : h = h') (e2 : l = l') : Ending.returned (.tuple #[.int .u64 h, .int .u64 l]) = .returned (.tuple #[.int .u64 (h'), .int .u64 (l')]) := by rw [e1, e2]
set_option maxRecDepth 100000 in
set_option maxHeartbeats 400000 in
theorem wide_size (a hi lo : Int) (ha : Wd hi lo a) (w : World) :
    Calls Tryz.prog 190 #[.agg #[.int .i64 hi, .int .u64 lo]] w fun e w' => e = .returned (.tuple #[.int .u64 (absI a / 18446744073709551616), .int .u64 (absI a % 18446744073709551616)]) ∧ Below w.heap.size w w' := by
  have hA := ha
  obtain ⟨a1, a2, a3, a4, a5⟩ := ha
  have A5 := Lib.hid a5
  clear a5
  by_cases h0 : hi < 0
  · by_cases hf : WFit (-a)
    all_goals
      go_enter Tryz.func190, Tryz.ntmps190
      go_wp2_with (first | (go_at_call 192; (with_reducible refine (wide_turned_fit a hi lo hA hf _).mono ?_); rintro e w' ⟨rfl, hb'⟩; obtain ⟨hc', hf'⟩ := bcell hb'; have hz' := bz1 (n := w.heap.size) hb' (by (try simp) <;> omega); have hs' := hb'.size; (try simp at hs'); (try (have hs2' := Nat.lt_of_succ_le hs'))) | (go_at_call 192; (with_reducible refine (wide_turned_min a hi lo hA hf _).mono ?_); rintro e w' ⟨rfl, hb'⟩; obtain ⟨hc', hf'⟩ := bcell hb'; have hz' := bz1 (n := w.heap.size) hb' (by (try simp) <;> omega); have hs' := hb'.size; (try simp at hs'); (try (have hs2' := Nat.lt_of_succ_le hs'))))
      go_quiet (fail)
      go_wp2
      go_ret2
      go_light
      have a5 := A5.out
      unfold WFit at hf
      exact ⟨ret_uu (by unfold absI; (try rw [IntKind.wrap_u64]); omega) (by unfold absI; omega), (by repeat' (first | (with_reducible exact Below.refl _ _) | (with_reducible assumption) | (with_reducible refine below_alloc ?_ _ ?_) | (with_reducible refine below_set _ ?_ ?_) | (with_reducible refine Below.drew ?_) | (with_reducible refine below_dN ?_ _) | (apply below_thenA; assumption) | omega | (simp; done) | (simp; omega) | (simp [*]; done)))⟩
  · go_enter Tryz.func190, Tryz.ntmps190
    go_wp2
    go_quiet (fail)
    go_wp2
    go_ret2
    go_light
    have a5 := A5.out
    exact ⟨ret_uu (by unfold absI; (try rw [IntKind.wrap_u64]); omega) (by unfold absI; omega), (by repeat' (first | (with_reducible exact Below.refl _ _) | (with_reducible assumption) | (with_reducible refine below_alloc ?_ _ ?_) | (with_reducible refine below_set _ ?_ ?_) | (with_reducible refine Below.drew ?_) | (with_reducible refine below_dN ?_ _) | (apply below_thenA; assumption) | omega | (simp; done) | (simp; omega) | (simp [*]; done)))⟩
end Go.Proofs.YtigjjddblijpbaaGreatDoor
set_option linter.unusedVariables false
namespace Go.Proofs.YtigjjddblijpbaaGreatDoor.KD
/-- Where a guessed digit stands: too great just where the test says so. -/
theorem test_iff {q r U d y1 y0 : Int} (hi : q * y1 + r = U) :
    q * (y1 * 4294967296 + y0) ≤ U * 4294967296 + d ↔ q * y0 ≤ r * 4294967296 + d := by
  subst hi
  rw [Int.mul_add, ← Int.mul_assoc, Int.add_mul]
  omega
theorem dl (U y k : Int) (hy : 0 < y) (h : U < k * y) : U / y < k := Int.ediv_lt_of_lt_mul hy h
theorem guess_le {U y1 y0 : Int} (h1 : 2147483648 ≤ y1) (h0 : y0 < 4294967296) (hU : U < y1 * 4294967296 + y0) : U / y1 ≤ 4294967297 := by
  have h0 : U < 4294967298 * y1 := by omega
  have h := dl U y1 4294967298 (by omega) h0
  exact Int.le_of_lt_add_one h
theorem guess_ge {U d y1 y0 : Int} (h1 : 0 < y1) (h0 : 0 ≤ y0) (hU : 0 ≤ U) (hd0 : 0 ≤ d) (hd : d < 4294967296) : (U * 4294967296 + d) / (y1 * 4294967296 + y0) ≤ U / y1 := by
  have hQ := Int.ediv_mul_le (U * 4294967296 + d) (b := y1 * 4294967296 + y0) (by omega)
  have hQ0 : 0 ≤ (U * 4294967296 + d) / (y1 * 4294967296 + y0) := Int.ediv_nonneg (by omega) (by omega)
  generalize (U * 4294967296 + d) / (y1 * 4294967296 + y0) = Q at *
  rw [Int.mul_add, ← Int.mul_assoc] at hQ
  have := Int.mul_nonneg hQ0 h0
  exact (Int.le_ediv_iff_mul_le h1).2 (by omega)
theorem digit_lt {U d Y : Int} (hY : 0 < Y) (hU : U < Y) (hd : d < 4294967296) : (U * 4294967296 + d) / Y < 4294967296 :=
  dl _ _ _ hY (by omega)
theorem digit_of {q r U d y1 y0 : Int} (hY : 0 < y1 * 4294967296 + y0) (hi : q * y1 + r = U) (hge : (U * 4294967296 + d) / (y1 * 4294967296 + y0) ≤ q) (ht : q * y0 ≤ r * 4294967296 + d) :
    q = (U * 4294967296 + d) / (y1 * 4294967296 + y0) :=
  Int.le_antisymm ((Int.le_ediv_iff_mul_le hY).2 ((test_iff (d := d) (y0 := y0) hi).2 ht)) hge
theorem digit_step {q r U d y1 y0 : Int} (hY : 0 < y1 * 4294967296 + y0) (hi : q * y1 + r = U) (ht : r * 4294967296 + d < q * y0) :
    (U * 4294967296 + d) / (y1 * 4294967296 + y0) ≤ q - 1 := by
  have h : ¬ q * (y1 * 4294967296 + y0) ≤ U * 4294967296 + d := fun h => by
    have := (test_iff (d := d) (y0 := y0) hi).1 h
    omega
  exact Int.le_sub_one_of_lt (Int.ediv_lt_of_lt_mul hY (Int.lt_of_not_ge h))
theorem digit_big {q r U d y1 y0 : Int} (hY : 0 < y1 * 4294967296 + y0) (h00 : 0 ≤ y0) (h0 : y0 < 4294967296) (hi : q * y1 + r = U) (hd : 0 ≤ d) (hq : q ≤ 4294967296) (hr : 4294967296 ≤ r) (hge : (U * 4294967296 + d) / (y1 * 4294967296 + y0) ≤ q) :
    q = (U * 4294967296 + d) / (y1 * 4294967296 + y0) := by
  refine digit_of hY hi hge ?_
  have h1 : q * y0 ≤ 4294967296 * y0 := Int.mul_le_mul_of_nonneg_right hq h00
  omega
theorem step_inv {q r U y1 : Int} (hi : q * y1 + r = U) : (q - 1) * y1 + (r + y1) = U := by
  rw [Int.sub_mul]; omega
/-- The words put together. -/
theorem whole_aux {U a b Y Q R : Int} (hY : 0 < Y) (h : Y * Q + R = U * 4294967296 + a) :
    (U * 18446744073709551616 + (a * 4294967296 + b)) / Y = Q * 4294967296 + (R * 4294967296 + b) / Y ∧
    (U * 18446744073709551616 + (a * 4294967296 + b)) % Y = (R * 4294967296 + b) % Y := by
  have e : U * 18446744073709551616 + (a * 4294967296 + b) = R * 4294967296 + b + Y * (Q * 4294967296) := by
    have : Y * (Q * 4294967296) = (Y * Q) * 4294967296 := (Int.mul_assoc _ _ _).symm
    omega
  rw [e, Int.add_mul_ediv_left _ _ (by omega), Int.add_mul_emod_self_left]
  exact ⟨Int.add_comm _ _, rfl⟩
theorem whole {U a b Y : Int} (hY : 0 < Y) :
    (U * 18446744073709551616 + (a * 4294967296 + b)) / Y = (U * 4294967296 + a) / Y * 4294967296 + ((U * 4294967296 + a) % Y * 4294967296 + b) / Y ∧
    (U * 18446744073709551616 + (a * 4294967296 + b)) % Y = ((U * 4294967296 + a) % Y * 4294967296 + b) % Y :=
  whole_aux hY (Int.mul_ediv_add_emod _ Y)
/-- Both shifted alike. -/
theorem unshift (x y : Int) (p : Int) (hp : 0 < p) : x * p / (y * p) = x / y ∧ x * p % (y * p) / p = x % y := by
  refine ⟨Int.mul_ediv_mul_of_pos_left _ _ hp, ?_⟩
  rw [Int.mul_comm x, Int.mul_comm y, Int.mul_emod_mul_of_pos _ _ hp, Int.mul_comm, Int.mul_ediv_cancel _ (by omega)]
/-- A guess on its way down to the digit. -/
def KInv (Y y1 U d q r : Int) : Prop := q * y1 + r = U ∧ 0 ≤ q ∧ 0 ≤ r ∧ r < 4294967296 ∧ q ≤ 4294967297 ∧ (U * 4294967296 + d) / Y ≤ q
theorem KInv.start {Y y1 y0 U d : Int} (hY : y1 * 4294967296 + y0 = Y) (h1 : 2147483648 ≤ y1) (h1b : y1 < 4294967296) (h00 : 0 ≤ y0) (h0 : y0 < 4294967296) (hU0 : 0 ≤ U) (hU : U < Y) (hd0 : 0 ≤ d) (hd : d < 4294967296) : KInv Y y1 U d (U / y1) (U - U / y1 * y1) := by
  subst hY
  have e := Int.mul_ediv_add_emod U y1
  have l := Int.emod_lt_of_pos U (show 0 < y1 by omega)
  have l0 := Int.emod_nonneg U (show y1 ≠ 0 by omega)
  rw [Int.mul_comm] at e
  exact ⟨by omega, Int.ediv_nonneg hU0 (by omega), by omega, by omega, guess_le h1 h0 hU, guess_ge (by omega) h00 hU0 hd0 hd⟩
theorem KInv.pos {Y y1 U d q r : Int} (h : KInv Y y1 U d q r) (hq : 4294967296 ≤ q) (hY : 0 < Y) (hU : U < Y) (hd : d < 4294967296) : (U * 4294967296 + d) / Y ≤ q - 1 := by
  have := digit_lt hY hU hd
  omega
theorem KInv.test {Y y1 y0 U d q r : Int} (h : KInv Y y1 U d q r) (hY : y1 * 4294967296 + y0 = Y) (h1 : 0 < y1) (h0 : 0 ≤ y0) (hd : 0 ≤ d) (ht : 4294967296 * r + d < q * y0) : (U * 4294967296 + d) / Y ≤ q - 1 ∧ 1 ≤ q := by
  subst hY
  refine ⟨digit_step (by omega) h.1 (by omega), ?_⟩
  obtain ⟨_, hq0, hr0, _, _, _⟩ := h
  rcases Int.lt_or_le 0 q with hp | hp
  · exact hp
  · have : q = 0 := by omega
    subst this
    simp at ht
    omega
theorem KInv.done {Y y1 y0 U d q r : Int} (h : KInv Y y1 U d q r) (hY : y1 * 4294967296 + y0 = Y) (h1 : 0 < y1) (h0 : 0 ≤ y0) (ht : ¬ 4294967296 * r + d < q * y0) : q = (U * 4294967296 + d) / Y := by
  subst hY
  exact digit_of (by omega) h.1 h.2.2.2.2.2 (by omega)
theorem KInv.next {Y y1 U d q r : Int} (h : KInv Y y1 U d q r) (h1 : 0 ≤ y1) (hp : 1 ≤ q) (hq : (U * 4294967296 + d) / Y ≤ q - 1) (hr : r + y1 < 4294967296) : KInv Y y1 U d (q - 1) (r + y1) := by
  obtain ⟨hi, hq0, hr0, _, hq1, _⟩ := h
  exact ⟨step_inv hi, by omega, by omega, hr, by omega, hq⟩
theorem KInv.big {Y y1 y0 U d q r : Int} (h : KInv Y y1 U d q r) (hY : y1 * 4294967296 + y0 = Y) (h1 : 0 < y1) (h00 : 0 ≤ y0) (h0 : y0 < 4294967296) (hd : 0 ≤ d) (hp : 1 ≤ q) (hq : (U * 4294967296 + d) / Y ≤ q - 1) (hr : 4294967296 ≤ r + y1) : q - 1 = (U * 4294967296 + d) / Y := by
  subst hY
  obtain ⟨hi, hq0, hr0, _, hq1, _⟩ := h
  exact digit_big (by omega) h00 h0 (step_inv hi) hd (by omega) hr hq
theorem mul_lt {q y : Int} (hq0 : 0 ≤ q) (hq : q < 4294967296) (hy0 : 0 ≤ y) (hy : y < 4294967296) : q * y ≤ 18446744065119617025 :=
  Int.mul_le_mul (show q ≤ 4294967295 by omega) (show y ≤ 4294967295 by omega) hy0 (by decide)
end Go.Proofs.YtigjjddblijpbaaGreatDoor.KD
