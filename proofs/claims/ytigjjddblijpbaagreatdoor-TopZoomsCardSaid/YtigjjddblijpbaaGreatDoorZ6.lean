/-
  A walker by reckoning: what is known of a step whatever the world.
-/
/-
  A walker by reckoning: regions that draw their order: each operation's part.
-/
/-
  A walker by reckoning: regions that draw their order: whatever the order.
-/
/-
  A walker by reckoning: regions that draw their order: the walk.
-/
/-
  A walker by reckoning: regions that draw their order.
-/
/-
  A walker by reckoning: codes, calls.
-/
/-
  A walker by reckoning: loops over maps, in whatever order: all outcomes.
-/
import Derived.Test.YtigjjddblijpbaaGreatDoorZ5
import Derived.LoopN
import Derived.Maps.RangeRun
namespace Go.Proofs.YtigjjddblijpbaaGreatDoor.Ex
open Go
set_option linter.unusedSimpArgs false
set_option linter.unusedVariables false

/-- What stands behind a step stood ahead of it, but for what it wrote and what is new. -/
def Syn (H : Hp) (nx : Nat) (H' : Hp) (nx' : Nat) (wr : List Nat) : Prop := ∀ l o, H'.get l = some o → l ∉ wr → (l < nx ∨ nx' ≤ l) → H.get l = some o
theorem Syn.refl (H : Hp) (nx nx' : Nat) (wr : List Nat) : Syn H nx H nx' wr := fun _ _ h _ _ => h
theorem Syn.trans {H H1 H2 : Hp} {nx n1 n2 : Nat} {r1 r2 : List Nat} (h : Syn H nx H1 n1 r1) (h' : Syn H1 n1 H2 n2 r2) (l1 : nx ≤ n1) (l2 : n1 ≤ n2) : Syn H nx H2 n2 (r1 ++ r2) := fun l o hl hm hn => by
  have m1 : l ∉ r1 := fun h => hm (List.mem_append.2 (.inl h))
  have m2 : l ∉ r2 := fun h => hm (List.mem_append.2 (.inr h))
  exact h l o (h' l o hl m2 (by omega)) m1 (by omega)
theorem syn_set {H H0 : Hp} {k : Nat} {x : Option AO} {nx nx' : Nat} {wr : List Nat} (hs : ∀ l o, H0.get l = some o → H.get l = some o) (h : k ∈ wr ∨ (nx ≤ k ∧ k < nx')) : Syn H nx (Tr.set D H0 k x) nx' wr := fun l o hl hm hn => by
  rcases Tr.get_set _ _ _ _ _ _ hl with ⟨rfl, _⟩ | ⟨_, h2⟩
  · rcases h with h | h
    · exact absurd h hm
    · omega
  · exact hs _ _ h2
theorem dropL_sub : ∀ (ls : List Nat) (H : Hp) (l : Nat) (o : AO), (dropL H ls).get l = some o → H.get l = some o ∧ l ∉ ls
  | [], H, l, o, h => ⟨h, fun h => by cases h⟩
  | k :: ls, H, l, o, h => by
    have h : (dropL (Tr.set D H k none) ls).get l = some o := h
    obtain ⟨h1, h2⟩ := dropL_sub ls _ l o h
    rcases Tr.get_set _ _ _ _ _ _ h1 with ⟨_, e⟩ | ⟨h3, h4⟩
    · cases e
    · exact ⟨h4, fun hm => by
        cases hm with
        | head => exact h3 rfl
        | tail _ hm => exact h2 hm⟩
def ClS (cl : Cl) : Prop := ∀ f args H nx v H' nx' wr, cl f args H nx = some (v, H', nx', wr) → nx ≤ nx' ∧ Syn H nx H' nx' wr
section
variable {P : Program} {C : Cx} {cl : Cl} {nt fl : Nat}
theorem appendV_syn {H : Hp} {nx T T' : Nat} {s x y : Value} {H' : Hp} {n' : Nat} {wr : List Nat} (h : appendV P H nx T T' s x = some (.s y H' n' wr)) : Syn H nx H' n' wr := by
  unfold appendV at h
  repeat' split at h
  all_goals first
    | (cases h; done)
    | (cases h; exact syn_set (fun _ _ h => h) (.inr (by omega)))
    | (cases h; exact syn_set (fun l o h => (dropL_sub _ _ l o h).1) (.inr (by omega)))
theorem stepOp_syn {ρ : Operand → Option Value} {H : Hp} {nx : Nat} {o : Oper} {x : Value} {H' : Hp} {n' : Nat} {wr : List Nat} (h : stepOp C P ρ H nx o = some (.s x H' n' wr)) : Syn H nx H' n' wr := by
  have hmk : ∀ {y : Value} {ao : AO}, mk H nx y ao = some (.s x H' n' wr) → Syn H nx H' n' wr := fun h => by
    unfold mk at h; cases h; exact syn_set (fun _ _ h => h) (.inr (by omega))
  unfold stepOp at h
  split at h
  · unfold opMove at h; split at h <;> cases h
  · unfold opMove at h; split at h <;> cases h
  · unfold opPick at h; repeat' split at h
    all_goals cases h
  · unfold opAlloc at h; repeat' split at h
    all_goals first | exact hmk h | cases h
  · unfold opBox at h; repeat' split at h
    all_goals first | exact hmk h | cases h
  · unfold opBuild at h; repeat' split at h
    all_goals cases h
  · unfold opBuildSlice at h; repeat' split at h
    all_goals first | exact hmk h | cases h
  · unfold opLoad at h; repeat' split at h
    all_goals cases h
  · unfold opStore at h; repeat' split at h
    all_goals first | (cases h; done) | (cases h; exact syn_set (fun _ _ h => h) (.inl (by simp)))
  · unfold opNilCheck at h; repeat' split at h
    all_goals cases h
  · unfold opBinOp at h; repeat' split at h
    all_goals cases h
  · unfold opUnOp at h; repeat' split at h
    all_goals cases h
  · unfold opConvert at h; repeat' split at h
    all_goals cases h
  · unfold opMakeFunc at h; repeat' split at h
    all_goals cases h
  · exact hmk h
  · unfold opMakeSlice at h; repeat' split at h
    all_goals first | exact hmk h | cases h
  · unfold opSlice at h; repeat' split at h
    all_goals cases h
  · unfold opFieldAddr at h; repeat' split at h
    all_goals cases h
  · unfold opField at h; repeat' split at h
    all_goals cases h
  · unfold opIndexAddr at h; repeat' split at h
    all_goals cases h
  · unfold opIndex at h; repeat' split at h
    all_goals cases h
  · unfold opLookup at h; repeat' split at h
    all_goals cases h
  · unfold opMapUpdate updateV at h; repeat' split at h
    all_goals first | (cases h; done) | (cases h; exact syn_set (fun _ _ h => h) (.inl (by simp)))
  · unfold opMapUpdate updateV at h; repeat' split at h
    all_goals first | (cases h; done) | (cases h; exact syn_set (fun _ _ h => h) (.inl (by simp)))
  · unfold opMapEntry entryV at h; repeat' split at h
    all_goals first | (cases h; done) | (cases h; exact Syn.refl _ _ _ _) | (cases h; exact syn_set (fun _ _ h => h) (.inl (by simp)))
  · unfold opEntryStore entryStoreV at h; repeat' split at h
    all_goals first | (cases h; done) | (cases h; exact syn_set (fun _ _ h => h) (.inl (by simp)))
  · unfold opRange at h; repeat' split at h
    all_goals first | exact hmk h | cases h
  · unfold opNext nextV at h; repeat' split at h
    all_goals cases h
  · unfold opExtract at h; repeat' split at h
    all_goals cases h
  · unfold opCall at h
    repeat' split at h
    all_goals first
      | (cases h; done)
      | (unfold builtinV at h
         repeat' split at h
         all_goals first | (cases h; done) | exact appendV_syn h)
  · cases h
theorem evOp_static (hcl : ClS cl) {ρ : Operand → Option Value} {H : Hp} {nx : Nat} {o : Oper} {x : Value} {H' : Hp} {n' : Nat} {wr : List Nat} (h : evOp cl C P ρ H nx o = some (x, H', n', wr)) : nx ≤ n' ∧ Syn H nx H' n' wr := by
  unfold evOp at h
  split at h
  · cases h; exact ⟨Nat.le_refl _, Syn.refl _ _ _ _⟩
  · rename_i hs; cases h; exact ⟨stepOp_le hs, stepOp_syn hs⟩
  · exact hcl _ _ _ _ _ _ _ _ h
  · cases h
theorem evList_static (hcl : ClS cl) (ops : List Oper) : ∀ (l : List Oper) (st st' : St) (wr : List Nat), evList cl C P nt ops l st = some (st', wr) → st.nx ≤ st'.nx ∧ Syn st.H st.nx st'.H st'.nx wr
  | [], st, st', wr, h => by
    have h : some (st, ([] : List Nat)) = some (st', wr) := h
    cases h
    exact ⟨Nat.le_refl _, Syn.refl _ _ _ _⟩
  | o :: l, st, st', wr, h => by
    rw [evList_cons] at h
    split at h
    · cases h
    · rename_i st1 wr1 h1
      split at h
      · cases h
      · rename_i st2 wr2 h2
        cases h
        obtain ⟨le2, s2⟩ := evList_static hcl ops l st1 st' wr2 h2
        unfold listStep at h1
        split at h1
        · cases h1
        · split at h1
          · cases h1
          · cases h1; exact ⟨le2, s2⟩
        · split at h1
          · cases h1
          · rename_i hop
            split at h1
            · cases h1
            · cases h1
              obtain ⟨le1, s1⟩ := evOp_static hcl hop
              exact ⟨Nat.le_trans le1 le2, s1.trans s2 le1 le2⟩
end
end Go.Proofs.YtigjjddblijpbaaGreatDoor.Ex
namespace Go.Proofs.YtigjjddblijpbaaGreatDoor.Ex
open Go
set_option linter.unusedSimpArgs false
set_option linter.unusedVariables false

/-- Does an operation write a name, or is it one of its new ones? -/
def Tou (r : Rec) (l : Nat) : Prop := l ∈ r.wr ∨ (r.n0 ≤ l ∧ l < r.n1)
theorem eraseR_get : ∀ (k n : Nat) (H : Hp) (l : Nat) (o : AO), (eraseR H n k).get l = some o → H.get l = some o ∧ ¬ (n ≤ l ∧ l < n + k)
  | 0, n, H, l, o, h => ⟨h, fun h => by omega⟩
  | k + 1, n, H, l, o, h => by
    have h : (eraseR (Tr.set D H n none) (n + 1) k).get l = some o := h
    obtain ⟨h1, h2⟩ := eraseR_get k (n + 1) _ l o h
    rcases Tr.get_set _ _ _ _ _ _ h1 with ⟨_, e⟩ | ⟨h3, h4⟩
    · cases e
    · exact ⟨h4, fun hm => by omega⟩
theorem banH_get {anc : Nat} : ∀ (rs : List Rec) (H H' : Hp) (b b' : Bool), banH anc rs H b = (H', b') → ∀ l o, H'.get l = some o → H.get l = some o ∧ ∀ r, r ∈ rs → Tou r l → bit anc r.j = true
  | [], H, H', b, b', h, l, o, hl => by
    have h : (H, b) = (H', b') := h
    cases h
    exact ⟨hl, fun r hr => by cases hr⟩
  | r :: rs, H, H', b, b', h, l, o, hl => by
    unfold banH at h
    split at h
    · rename_i hb
      obtain ⟨h1, h2⟩ := banH_get rs H H' b b' h l o hl
      refine ⟨h1, fun r' hr' ht => ?_⟩
      cases hr' with
      | head => exact hb
      | tail _ hr' => exact h2 r' hr' ht
    · rename_i hb
      obtain ⟨h1, h2⟩ := banH_get rs _ H' true b' h l o hl
      obtain ⟨h3, h4⟩ := eraseR_get _ _ _ _ _ h1
      obtain ⟨h5, h6⟩ := dropL_get _ _ _ _ h3
      refine ⟨h6, fun r' hr' ht => ?_⟩
      cases hr' with
      | head =>
        exfalso
        rcases ht with ht | ht
        · exact h5 ht
        · exact h4 (by omega)
      | tail _ hr' => exact h2 r' hr' ht
theorem noneL_spec {H : Hp} : ∀ {ls : List Nat}, noneL H ls = true → ∀ l, l ∈ ls → H.get l = none
  | [], _, l, hl => by cases hl
  | k :: ls, h, l, hl => by
    unfold noneL at h
    split at h
    · rename_i hk
      cases hl with
      | head => exact hk
      | tail _ hl => exact noneL_spec h l hl
    · cases h
theorem apartR_spec {anc : Nat} {wr : List Nat} : ∀ {rs : List Rec}, apartR anc wr rs = true → ∀ r, r ∈ rs → bit anc r.j = false → ∀ l, l ∈ wr → r.H.get l = none
  | [], _, r, hr, _, _, _ => by cases hr
  | r :: rs, h, r', hr, hb, l, hl => by
    unfold apartR at h
    split at h
    · rename_i hb'
      cases hr with
      | head => rw [hb] at hb'; cases hb'
      | tail _ hr => exact apartR_spec h r' hr hb l hl
    · split at h
      · rename_i hn
        cases hr with
        | head => exact noneL_spec hn l hl
        | tail _ hr => exact apartR_spec h r' hr hb l hl
      · cases h
theorem apartB_spec {anc : Nat} {wr : List Nat} {rs : List Rec} (h : apartB anc wr rs = true) : ∀ r, r ∈ rs → bit anc r.j = false → ∀ l, l ∈ wr → r.H.get l = none := by
  unfold apartB at h
  split at h
  · intro r _ _ l hl; cases hl
  · exact apartR_spec h
theorem copyL_get : ∀ (ls : List Nat) (H H' : Hp) (l : Nat) (o : AO), (copyL H H' ls).get l = some o → (l ∈ ls ∧ H'.get l = some o) ∨ (l ∉ ls ∧ H.get l = some o)
  | [], H, H', l, o, h => .inr ⟨fun h => (by cases h), h⟩
  | k :: ls, H, H', l, o, h => by
    have h : (copyL (Tr.set D H k (H'.get k)) H' ls).get l = some o := h
    rcases copyL_get ls _ _ l o h with ⟨h1, h2⟩ | ⟨h1, h2⟩
    · exact .inl ⟨List.mem_cons_of_mem _ h1, h2⟩
    · rcases Tr.get_set _ _ _ _ _ _ h2 with ⟨rfl, e⟩ | ⟨h3, h4⟩
      · exact .inl ⟨List.mem_cons_self .., e⟩
      · exact .inr ⟨fun hm => by
          cases hm with
          | head => exact h3 rfl
          | tail _ hm => exact h1 hm, h4⟩
theorem copyR_get : ∀ (k n : Nat) (H H' : Hp) (l : Nat) (o : AO), (copyR H H' n k).get l = some o → ((n ≤ l ∧ l < n + k) ∧ H'.get l = some o) ∨ (¬ (n ≤ l ∧ l < n + k) ∧ H.get l = some o)
  | 0, n, H, H', l, o, h => .inr ⟨by omega, h⟩
  | k + 1, n, H, H', l, o, h => by
    have h : (copyR (Tr.set D H n (H'.get n)) H' (n + 1) k).get l = some o := h
    rcases copyR_get k (n + 1) _ _ l o h with ⟨h1, h2⟩ | ⟨h1, h2⟩
    · exact .inl ⟨by omega, h2⟩
    · rcases Tr.get_set _ _ _ _ _ _ h2 with ⟨rfl, e⟩ | ⟨h3, h4⟩
      · exact .inl ⟨by omega, e⟩
      · exact .inr ⟨by omega, h4⟩
theorem recs_all {rs : Nat → Rec} : ∀ {j i : Nat}, i < j → rs i ∈ (recsAt rs j).all
  | j + 1, i, h => by
    have hc : (recsAt rs (j + 1)).all = rs j :: (recsAt rs j).all := by
      show ((recsAt rs j).add (rs j)).all = _
      unfold Recs.add
      split <;> rfl
    rw [hc]
    by_cases e : i = j
    · subst e; exact List.mem_cons_self ..
    · exact List.mem_cons_of_mem _ (recs_all (by omega))
theorem recs_tch {rs : Nat → Rec} : ∀ {j i l : Nat}, i < j → Tou (rs i) l → rs i ∈ (recsAt rs j).tch
  | j + 1, i, l, h, ht => by
    by_cases e : i = j
    · subst e
      show rs i ∈ ((recsAt rs i).add (rs i)).tch
      unfold Recs.add
      split
      · rename_i hw hn
        exfalso
        rcases ht with ht | ht
        · rw [hw] at ht; cases ht
        · have := Nat.eq_of_beq_eq_true hn
          omega
      · exact List.mem_cons_self ..
    · have h1 := recs_tch (rs := rs) (j := j) (i := i) (l := l) (by omega) ht
      show rs i ∈ ((recsAt rs j).add (rs j)).tch
      unfold Recs.add
      split
      · exact h1
      · exact List.mem_cons_of_mem _ h1
/-- What is known of one operation of a drawn region. -/
structure OpT (cl : Cl) (C : Cx) (P : Program) (nt : Nat) (ops : List Oper) (ms : List Nat) (R : Nat → Rec) (o : Oper) (j : Nat) (s s' : St) (v : Value) (H' : Hp) (want : Bool) : Prop where
  hms : ms[j]? = some (R j).anc
  looks : looksB (R j).anc j ops ms (guardT ops o.guard ++ tmpsL o.op.operands.toList) = true
  hwant : wantB ops s.tm o.guard = some want
  put : putT nt s.tm o.dst v = some s'.tm
  n0 : (R j).n0 = s.nx
  n1 : (R j).n1 = s'.nx
  le : s.nx ≤ s'.nx
  mg : ∀ l o, s'.H.get l = some o → (Tou (R j) l ∧ H'.get l = some o) ∨ (¬ Tou (R j) l ∧ s.H.get l = some o)
  hb : ∀ l o, (R j).H.get l = some o → s.H.get l = some o ∧ ∀ i, i < j → Tou (R i) l → bit (R j).anc i = true
  ap : ∀ i, i < j → bit (R j).anc i = false → ∀ l, l ∈ (R j).wr → (R i).H.get l = none
  lt : ∀ l, l ∈ (R j).wr → l < s.nx
  run : (want = false ∧ v = undefV ∧ (R j).wr = [] ∧ s'.nx = s.nx ∧ (R j).H = .e ∧ H' = .e) ∨ (want = true ∧ evOp cl C P (ev s.tm) (R j).H s.nx o = some (v, H', s'.nx, (R j).wr))
section
variable {cl : Cl} {C : Cx} {P : Program} {nt : Nat}
theorem draw_j {ops : List Oper} {ms : List Nat} {pre : List Rec} {o : Oper} {j : Nat} {recs : Recs} {s s' : St} {wr : List Nat} {r : Rec} (h : drawStep cl C P nt ops ms pre true o j recs s = some (s', wr, r)) : r.j = j := by
  unfold drawStep at h
  repeat' split at h
  all_goals first | (cases h; done) | (cases h; rfl)
theorem merge_get {H H' : Hp} {b : Bool} {r : Rec} (hs : Syn H r.n0 H' r.n1 r.wr) (le : r.n0 ≤ r.n1) {l : Nat} {o : AO} (h : (merge H H' b r.wr r.n0 r.n1).get l = some o) : (Tou r l ∧ H'.get l = some o) ∨ (¬ Tou r l ∧ H.get l = some o) := by
  unfold merge at h
  split at h
  · by_cases ht : Tou r l
    · exact .inl ⟨ht, h⟩
    · refine .inr ⟨ht, hs l o h (fun hm => ht (.inl hm)) ?_⟩
      by_cases h1 : l < r.n0
      · exact .inl h1
      · by_cases h2 : l < r.n1
        · exact absurd (.inr ⟨by omega, h2⟩) ht
        · exact .inr (by omega)
  · rcases copyR_get _ _ _ _ _ _ h with ⟨h1, h2⟩ | ⟨h1, h2⟩
    · exact .inl ⟨.inr (by omega), h2⟩
    · rcases copyL_get _ _ _ _ _ h2 with ⟨h3, h4⟩ | ⟨h3, h4⟩
      · exact .inl ⟨.inl h3, h4⟩
      · refine .inr ⟨fun ht => ?_, h4⟩
        rcases ht with ht | ht
        · exact h3 ht
        · exact h1 (by omega)
theorem draw_opT (hcl : ClS cl) {ops : List Oper} {ms : List Nat} {pre : List Rec} {R : Nat → Rec} {o : Oper} {j : Nat} {s s' : St} (h : drawStep cl C P nt ops ms pre true o j (recsAt R j) s = some (s', (R j).wr, R j))
    (hj : ∀ i, i < j → (R i).j = i) : ∃ x : Value × Hp × Bool, OpT cl C P nt ops ms R o j s s' x.1 x.2.1 x.2.2 := by
  generalize hr : R j = r at h
  unfold drawStep at h
  split at h
  · cases h
  · rename_i anc hm
    split at h
    · cases h
    · rename_i hlk
      split at h
      · cases h
      · rename_i hw
        split at h
        · cases h
        · rename_i tm htm
          simp only [Option.some.injEq, Prod.mk.injEq] at h
          obtain ⟨rfl, h2, rfl⟩ := h
          refine ⟨(undefV, .e, false), ?_⟩
          refine ⟨?_, ?_, hw, htm, ?_, ?_, Nat.le_refl _, ?_, ?_, ?_, ?_, ?_⟩ <;> rw [hr]
          · rw [← nth_eq]; exact hm
          · exact hlk
          · intro l o ho
            refine .inr ⟨fun ht => ?_, ho⟩
            rcases ht with ht | ht
            · cases ht
            · simp only at ht; omega
          · intro l o ho; cases ho
          · intro i _ _ l hl; cases hl
          · intro l hl; cases hl
          · exact .inl ⟨rfl, rfl, rfl, rfl, rfl, rfl⟩
      · rename_i hw
        split at h
        rename_i Hj b hbn
        split at h
        · cases h
        · rename_i v H' nx' wr hop
          split at h
          · cases h
          · rename_i hap
            split at h
            · cases h
            · rename_i tm htm
              simp only [Option.some.injEq, Prod.mk.injEq] at h
              obtain ⟨rfl, h2, rfl⟩ := h
              simp only [Bool.not_true, Bool.false_or, Bool.and_eq_true] at hap
              obtain ⟨le, hsyn⟩ := evOp_static hcl hop
              have hsub : ∀ l o, Hj.get l = some o → s.H.get l = some o ∧ ∀ r, r ∈ (recsAt R j).tch → Tou r l → bit anc r.j = true := fun l o hl => by
                obtain ⟨h3, h4⟩ := banH_get _ _ _ _ _ hbn l o hl
                exact ⟨(dropL_get _ _ _ _ h3).2, h4⟩
              refine ⟨(v, H', true), ?_⟩
              refine ⟨?_, ?_, hw, htm, ?_, ?_, le, ?_, ?_, ?_, ?_, ?_⟩ <;> rw [hr]
              · rw [← nth_eq]; exact hm
              · exact hlk
              · intro l o ho
                exact merge_get (r := ⟨j, anc, wr, s.nx, nx', Hj⟩) (H := s.H) (fun l o h1 h2 h3 => (hsub l o (hsyn l o h1 h2 h3)).1) le ho
              · intro l o ho
                obtain ⟨h3, h4⟩ := hsub l o ho
                refine ⟨h3, fun i hi ht => ?_⟩
                have := h4 (R i) (recs_tch hi ht) ht
                rw [hj i hi] at this
                exact this
              · intro i hi hb l hl
                exact apartB_spec hap.1 (R i) (recs_all hi) (by rw [hj i hi]; exact hb) l hl
              · exact ltAll_spec hap.2
              · exact .inr ⟨rfl, hop⟩
/-- A drawn region, as it was reckoned. -/
structure DT (cl : Cl) (C : Cx) (P : Program) (nt : Nat) (ops : List Oper) (ms : List Nat) (S : Nat → St) (R : Nat → Rec) (Vv : Nat → Value) (Hh : Nat → Hp) (W : Nat → Bool) : Prop where
  op : ∀ i o, ops[i]? = some o → OpT cl C P nt ops ms R o i (S i) (S (i + 1)) (Vv i) (Hh i) (W i)
  ms : masks ops [] = some ms
theorem evDraw_dt (hcl : ClS cl) {ops : List Oper} {ms : List Nat} {pre : List Rec} {st st' : St} {wr : List Nat} {rr : Recs} (hms : masks ops [] = some ms) (h : evDraw cl C P nt ops ms pre true ops 0 ⟨[], []⟩ st = some (st', wr, rr)) :
    ∃ S R Vv Hh W, DT cl C P nt ops ms S R Vv Hh W ∧ S 0 = st ∧ S ops.length = st' ∧ ∀ x, x ∈ wr ↔ ∃ i, i < ops.length ∧ x ∈ (R i).wr := by
  obtain ⟨S, R, h1, _, h3, h4, h5⟩ := draw_trace (pre := pre) ops 0 (fun _ => st) (fun _ => ⟨0, 0, [], 0, 0, .e⟩) st' wr rr h
  simp only [Nat.zero_add] at h3 h4 h5
  have hjj : ∀ i, i < ops.length → (R i).j = i := fun i hi => draw_j (h4 i ops[i] (List.getElem?_eq_getElem hi))
  have hx : ∀ i, ∃ x : Value × Hp × Bool, ∀ o, ops[i]? = some o → OpT cl C P nt ops ms R o i (S i) (S (i + 1)) x.1 x.2.1 x.2.2 := fun i => by
    cases ho : ops[i]? with
    | none => exact ⟨(undefV, .e, false), fun o h => by cases h⟩
    | some o =>
      have hlt := (List.getElem?_eq_some_iff.1 ho).1
      obtain ⟨x, hx⟩ := draw_opT hcl (h4 i o ho) (fun k hk => hjj k (by omega))
      exact ⟨x, fun o' h => by cases h; exact hx⟩
  obtain ⟨f, hf⟩ := Classical.axiomOfChoice hx
  exact ⟨S, R, fun i => (f i).1, fun i => (f i).2.1, fun i => (f i).2.2, ⟨hf, hms⟩, h1 0 (Nat.le_refl _), h3, h5⟩
theorem evDraw2_dt (hcl : ClS cl) {ops : List Oper} {st st' : St} {wr : List Nat} {rr : Recs} (h : evDraw2 cl C P nt ops st = some (st', wr, rr)) :
    ∃ ms S R Vv Hh W, DT cl C P nt ops ms S R Vv Hh W ∧ S 0 = st ∧ S ops.length = st' ∧ ∀ x, x ∈ wr ↔ ∃ i, i < ops.length ∧ x ∈ (R i).wr := by
  unfold evDraw2 at h
  split at h
  · cases h
  · rename_i ms hms
    split at h
    · rename_i r hr
      cases h
      obtain ⟨S, R, Vv, Hh, W, h⟩ := evDraw_dt hcl hms hr
      exact ⟨ms, S, R, Vv, Hh, W, h⟩
    · split at h
      · cases h
      · obtain ⟨S, R, Vv, Hh, W, h⟩ := evDraw_dt hcl hms h
        exact ⟨ms, S, R, Vv, Hh, W, h⟩
end
end Go.Proofs.YtigjjddblijpbaaGreatDoor.Ex
namespace Go.Proofs.YtigjjddblijpbaaGreatDoor.Ex
open Go
set_option linter.unusedSimpArgs false
set_option linter.unusedVariables false

/-- What is known of a block when those of X have come up; b bounds the names that it is told with. -/
def LF (S : Nat → St) (R : Nat → Rec) (Hh : Nat → Hp) (X : Nat → Prop) (b : Nat) (l : Nat) (o : AO) : Prop :=
  ((S 0).H.get l = some o ∧ (∀ i, X i → ¬ Tou (R i) l) ∧ (S 0).nx ≤ b) ∨ ∃ i, X i ∧ Tou (R i) l ∧ (Hh i).get l = some o ∧ (∀ k, X k → i < k → ¬ Tou (R k) l) ∧ (S (i + 1)).nx ≤ b
/-- What is known of a slot. -/
def TF (S : Nat → St) (ops : List Oper) (Vv : Nat → Value) (X : Nat → Prop) (b : Nat) (t : Nat) (u : Value) : Prop :=
  ((S 0).tm.get t = some u ∧ (∀ i o, X i → ops[i]? = some o → o.dst ≠ some t) ∧ (S 0).nx ≤ b) ∨ ∃ i o, X i ∧ ops[i]? = some o ∧ o.dst = some t ∧ u = Vv i ∧ (S (i + 1)).nx ≤ b
section
variable {cl : Cl} {C : Cx} {P : Program} {nt : Nat} {ops : List Oper} {ms : List Nat} {S : Nat → St} {R : Nat → Rec} {Vv : Nat → Value} {Hh : Nat → Hp} {W : Nat → Bool}
theorem nx_mono (d : DT cl C P nt ops ms S R Vv Hh W) : ∀ (k i : Nat), i + k ≤ ops.length → (S i).nx ≤ (S (i + k)).nx
  | 0, i, _ => Nat.le_refl _
  | k + 1, i, h => Nat.le_trans (nx_mono d k i (by omega)) (d.op (i + k) _ (List.getElem?_eq_getElem (by omega))).le
theorem nx_le (d : DT cl C P nt ops ms S R Vv Hh W) {i j : Nat} (h : i ≤ j) (hj : j ≤ ops.length) : (S i).nx ≤ (S j).nx := by
  have := nx_mono d (j - i) i (by omega)
  rwa [show i + (j - i) = j by omega] at this
theorem op_at (d : DT cl C P nt ops ms S R Vv Hh W) {i : Nat} (h : i < ops.length) : OpT cl C P nt ops ms R ops[i] i (S i) (S (i + 1)) (Vv i) (Hh i) (W i) := d.op i _ (List.getElem?_eq_getElem h)
theorem tou_lt (d : DT cl C P nt ops ms S R Vv Hh W) {i l : Nat} (h : i < ops.length) (ht : Tou (R i) l) : l < (S (i + 1)).nx := by
  have o := op_at d h
  have := o.le
  rcases ht with ht | ht
  · have := o.lt l ht; omega
  · rw [o.n1] at ht; omega
/-- Bits: those for which an operation waits. -/
theorem anc_of (d : DT cl C P nt ops ms S R Vv Hh W) {i : Nat} {o : Oper} (ho : ops[i]? = some o) :
    (∀ e, e ∈ o.after.toList → Region.binds .any e = true → e.on < i) ∧ ∀ k, bit (R i).anc k = true → ∃ e, e ∈ o.after.toList ∧ Region.binds .any e = true ∧ (e.on = k ∨ bit (R e.on).anc k = true) := by
  obtain ⟨t, h1, h2, h3⟩ := masks_spec ops [] ms d.ms
  obtain ⟨m, g1, g2, g3⟩ := h3 i o ho
  simp only [List.length_nil, Nat.zero_add] at g1 g2
  have hlt := (List.getElem?_eq_some_iff.1 ho).1
  have e1 : m = (R i).anc := by
    have := (d.op i o ho).hms
    rw [g1] at this
    exact Option.some.inj this
  subst e1
  refine ⟨g2, fun k hk => ?_⟩
  obtain ⟨e, he, hb, h⟩ := g3 k hk
  refine ⟨e, he, hb, ?_⟩
  rcases h with h | ⟨x, hx, h⟩
  · exact .inl h
  · refine .inr ?_
    have hl : e.on < ops.length := by have := g2 e he hb; omega
    have := (op_at d hl).hms
    rw [hx] at this
    cases this
    exact h
theorem anc_lt (d : DT cl C P nt ops ms S R Vv Hh W) : ∀ (i k : Nat), i < ops.length → bit (R i).anc k = true → k < i := by
  intro i
  induction i using Nat.strongRecOn with
  | ind i ih =>
    intro k hi hk
    obtain ⟨h1, h2⟩ := anc_of d (List.getElem?_eq_getElem hi)
    obtain ⟨e, he, hb, h⟩ := h2 k hk
    have := h1 e he hb
    rcases h with h | h
    · omega
    · have := ih e.on this k (by omega) h
      omega
/-- What has come up holds whatever it waits for. -/
def Shutd (n : Nat) (R : Nat → Rec) (X : Nat → Prop) : Prop := (∀ i, X i → i < n) ∧ ∀ k i, X k → bit (R k).anc i = true → X i
theorem fact_lt (d : DT cl C P nt ops ms S R Vv Hh W) (hN : ∀ l, (S 0).nx ≤ l → l < (S ops.length).nx → ∀ o, (S 0).H.get l ≠ some o) {j : Nat} (hj : j ≤ ops.length) {l : Nat} {o : AO} (h : LF S R Hh (· < j) (S j).nx l o) : l < (S j).nx ∨ (S ops.length).nx ≤ l := by
  rcases h with ⟨h1, _⟩ | ⟨i, h1, h2, _⟩
  · have := hN l
    by_cases h3 : (S 0).nx ≤ l
    · by_cases h4 : l < (S ops.length).nx
      · exact absurd h1 (this h3 h4 o)
      · exact .inr (by omega)
    · have := nx_le d (Nat.zero_le j) hj
      exact .inl (by omega)
  · have := tou_lt d (by omega) h2
    have := nx_le d (show i + 1 ≤ j by omega) hj
    exact .inl (by omega)
/-- What stood in the reckoned memory ahead of an operation. -/
theorem claimS (d : DT cl C P nt ops ms S R Vv Hh W) : ∀ (j : Nat), j ≤ ops.length → ∀ l o, (S j).H.get l = some o → LF S R Hh (· < j) (S j).nx l o
  | 0, _, l, o, h => .inl ⟨h, fun i hi => by omega, Nat.le_refl _⟩
  | j + 1, hj, l, o, h => by
    have op := op_at d (show j < ops.length by omega)
    rcases op.mg l o h with ⟨h1, h2⟩ | ⟨h1, h2⟩
    · exact .inr ⟨j, by omega, h1, h2, fun k hk hk2 => by omega, Nat.le_refl _⟩
    · rcases claimS d j (by omega) l o h2 with ⟨h3, h4, h5⟩ | ⟨i, h3, h4, h5, h6, h7⟩
      · refine .inl ⟨h3, fun i hi => ?_, Nat.le_trans h5 op.le⟩
        by_cases e : i = j
        · subst e; exact h1
        · exact h4 i (by omega)
      · refine .inr ⟨i, by omega, h4, h5, fun k hk hk2 => ?_, Nat.le_trans h7 op.le⟩
        by_cases e : k = j
        · subst e; exact h1
        · exact h6 k (by omega) hk2
theorem claimT (d : DT cl C P nt ops ms S R Vv Hh W) : ∀ (j : Nat), j ≤ ops.length → ∀ t u, (S j).tm.get t = some u → TF S ops Vv (· < j) (S j).nx t u
  | 0, _, t, u, h => .inl ⟨h, fun i o hi => by omega, Nat.le_refl _⟩
  | j + 1, hj, t, u, h => by
    have hlt : j < ops.length := by omega
    have op := op_at d hlt
    have hput := op.put
    have old : ops[j].dst ≠ some t → (S j).tm.get t = some u → TF S ops Vv (· < j + 1) (S (j + 1)).nx t u := fun hne h => by
      rcases claimT d j (by omega) t u h with ⟨h3, h4, h5⟩ | ⟨i, o, h3, h4, h5, h6, h7⟩
      · refine .inl ⟨h3, fun i o hi ho => ?_, Nat.le_trans h5 op.le⟩
        by_cases e : i = j
        · subst e
          rw [List.getElem?_eq_getElem hlt] at ho
          cases ho
          exact hne
        · exact h4 i o (by omega) ho
      · exact .inr ⟨i, o, by omega, h4, h5, h6, Nat.le_trans h7 op.le⟩
    unfold putT at hput
    split at hput
    · rename_i hd
      have e := Option.some.inj hput
      rw [← e] at h
      exact old (by rw [hd]; simp) h
    · rename_i dd hd
      split at hput
      · have e := Option.some.inj hput
        rw [← e] at h
        rcases Tr.get_set _ _ _ _ _ _ h with ⟨rfl, e2⟩ | ⟨h3, h4⟩
        · cases e2
          exact .inr ⟨j, ops[j], by omega, List.getElem?_eq_getElem hlt, hd, rfl, Nat.le_refl _⟩
        · exact old (by rw [hd]; exact fun e => h3 (Option.some.inj e).symm) h4
      · cases hput
/-- Two operations that touch the same: the later waits for the earlier. -/
theorem conf (d : DT cl C P nt ops ms S R Vv Hh W) {i k l : Nat} (hk : k < ops.length) (hik : i < k) (hi : Tou (R i) l) (ht : Tou (R k) l) (hw : l ∈ (R k).wr → ∃ o, (R k).H.get l = some o) : bit (R k).anc i = true := by
  have o := op_at d hk
  rcases ht with ht | ht
  · obtain ⟨o', ho⟩ := hw ht
    exact (o.hb l o' ho).2 i hik hi
  · exfalso
    have := tou_lt d (show i < ops.length by omega) hi
    have := nx_le d (show i + 1 ≤ k by omega) (by omega)
    rw [o.n0] at ht
    omega
/-- What an operation is given holds when its turn comes. -/
theorem claimA (d : DT cl C P nt ops ms S R Vv Hh W) (hN : ∀ l, (S 0).nx ≤ l → l < (S ops.length).nx → ∀ o, (S 0).H.get l ≠ some o) {X : Nat → Prop} (hX : Shutd ops.length R X) {j : Nat} (hj : j < ops.length) (hnj : ¬ X j) (hr : ∀ i, bit (R j).anc i = true → X i) {l : Nat} {o : AO} (h : (R j).H.get l = some o) : LF S R Hh X (S j).nx l o := by
  have op := op_at d hj
  obtain ⟨h1, h2⟩ := op.hb l o h
  have hS := claimS d j (by omega) l o h1
  have hlt := fact_lt d hN (by omega) hS
  have late : ∀ k, X k → j < k → ¬ Tou (R k) l := fun k hk hjk ht => by
    have hkn := hX.1 k hk
    have opk := op_at d hkn
    have hb : bit (R k).anc j = false := by
      cases hb : bit (R k).anc j with
      | false => rfl
      | true => exact absurd (hX.2 k j hk hb) hnj
    rcases ht with ht | ht
    · have := opk.ap j hjk hb l ht
      rw [h] at this; cases this
    · rw [opk.n0, opk.n1] at ht
      have := nx_le d (show j ≤ k by omega) (by omega)
      have := nx_le d (show k + 1 ≤ ops.length by omega) (Nat.le_refl _)
      omega
  rcases hS with ⟨h3, h4, h7⟩ | ⟨i, h3, h4, h5, h6, h7⟩
  · refine .inl ⟨h3, fun i hi => ?_, h7⟩
    rcases Nat.lt_trichotomy i j with e | e | e
    · exact h4 i e
    · subst e; exact absurd hi hnj
    · exact late i hi e
  · refine .inr ⟨i, hr i (h2 i h3 h4), h4, h5, fun k hk hik => ?_, h7⟩
    rcases Nat.lt_trichotomy k j with e | e | e
    · exact h6 k e hik
    · subst e; exact absurd hk hnj
    · exact late k hk e
theorem dstOk_spec {anc j t : Nat} : ∀ {os : List Oper} {mm : List Nat} {k : Nat}, dstOk anc j t os mm k = true → ∀ i o, os[i]? = some o → o.dst = some t → ∃ m, mm[i]? = some m ∧ (k + i = j ∨ bit anc (k + i) = true ∨ bit m j = true)
  | [], mm, k, _, i, o, ho, _ => by simp at ho
  | x :: os, [], k, h, i, o, ho, _ => by cases h
  | x :: os, m :: mm, k, h, i, o, ho, hd => by
    unfold dstOk at h
    have tl : dstOk anc j t os mm (k + 1) = true → ∀ i', i = i' + 1 → ∃ m', (m :: mm)[i]? = some m' ∧ (k + i = j ∨ bit anc (k + i) = true ∨ bit m' j = true) := fun h i' e => by
      subst e
      simp at ho
      obtain ⟨m', h1, h2⟩ := dstOk_spec h i' o ho hd
      exact ⟨m', by simpa using h1, by rw [show k + (i' + 1) = k + 1 + i' by omega]; exact h2⟩
    split at h
    · rename_i hx
      cases i with
      | zero =>
        simp at ho; subst ho
        rw [hd] at hx
        simp [isD] at hx
      | succ i => exact tl h i rfl
    · split at h
      · rename_i hb
        cases i with
        | zero =>
          refine ⟨m, rfl, ?_⟩
          simp only [Bool.or_eq_true, Nat.beq_eq_true_eq] at hb
          rcases hb with (hb | hb) | hb
          · exact .inl (Nat.eq_of_beq_eq_true hb)
          · exact .inr (.inl hb)
          · exact .inr (.inr hb)
        | succ i => exact tl h i rfl
      · cases h
theorem looks_spec {anc j : Nat} {ops : List Oper} {mm : List Nat} : ∀ {ts : List Nat}, looksB anc j ops mm ts = true → ∀ t, t ∈ ts → dstOk anc j t ops mm 0 = true
  | [], _, t, h => by cases h
  | s :: ts, h, t, ht => by
    unfold looksB at h
    split at h
    · rename_i h1
      cases ht with
      | head => exact h1
      | tail _ ht => exact looks_spec h t ht
    · cases h
/-- What an operation looks at is so when its turn comes. -/
theorem claimTT (d : DT cl C P nt ops ms S R Vv Hh W) {X : Nat → Prop} (hX : Shutd ops.length R X) {j : Nat} (hj : j < ops.length) (hnj : ¬ X j) (hr : ∀ i, bit (R j).anc i = true → X i) {t : Nat} {u : Value}
    (hk : t ∈ guardT ops ops[j].guard ++ tmpsL ops[j].op.operands.toList) (h : (S j).tm.get t = some u) : TF S ops Vv X (S j).nx t u := by
  have op := op_at d hj
  have hd := looks_spec op.looks t hk
  have key : ∀ i o, ops[i]? = some o → o.dst = some t → i = j ∨ bit (R j).anc i = true ∨ bit (R i).anc j = true := fun i o ho hdt => by
    obtain ⟨m, h1, h2⟩ := dstOk_spec hd i o ho hdt
    rw [Nat.zero_add] at h2
    have := (d.op i o ho).hms
    rw [h1] at this
    cases this
    exact h2
  rcases claimT d j (by omega) t u h with ⟨h3, h4, h7⟩ | ⟨i, o, h3, h4, h5, h6, h7⟩
  · refine .inl ⟨h3, fun i o hi ho hdt => ?_, h7⟩
    have hin := hX.1 i hi
    rcases Nat.lt_trichotomy i j with e | e | e
    · exact h4 i o e ho hdt
    · subst e; exact hnj hi
    · rcases key i o ho hdt with e1 | e1 | e1
      · omega
      · have := anc_lt d j i hj e1; omega
      · exact hnj (hX.2 i j hi e1)
  · refine .inr ⟨i, o, ?_, h4, h5, h6, h7⟩
    rcases key i o h4 h5 with e1 | e1 | e1
    · omega
    · exact hr i e1
    · have := anc_lt d i j (by omega) e1; omega
theorem memB_iff {x : Nat} : ∀ {l : List Nat}, memB x l = true ↔ x ∈ l
  | [] => by simp [memB]
  | y :: l => by
    unfold memB
    split
    · rename_i h
      have := Nat.eq_of_beq_eq_true h
      subst this
      simp
    · rename_i h
      rw [memB_iff (l := l)]
      have : x ≠ y := fun e => by subst e; simp at h
      simp [this]
theorem dstL_mem : ∀ {os : List Oper} {i : Nat} {o : Oper} {t : Nat}, os[i]? = some o → o.dst = some t → t ∈ dstL os
  | [], i, o, t, h, _ => by simp at h
  | x :: os, 0, o, t, h, hd => by
    simp at h; subst h
    unfold dstL
    rw [hd]
    exact List.mem_cons_self ..
  | x :: os, i + 1, o, t, h, hd => by
    simp at h
    have := dstL_mem h hd
    unfold dstL
    split
    · exact this
    · exact List.mem_cons_of_mem _ this
theorem dst_uni : ∀ {os : List Oper}, nodB (dstL os) = true → ∀ {i k : Nat} {o o' : Oper} {t : Nat}, os[i]? = some o → os[k]? = some o' → o.dst = some t → o'.dst = some t → i = k
  | [], _, i, k, o, o', t, h, _, _, _ => by simp at h
  | x :: os, hn, i, k, o, o', t, h, h', hd, hd' => by
    have tl : nodB (dstL os) = true ∧ ∀ t, x.dst = some t → t ∉ dstL os := by
      unfold dstL at hn
      split at hn
      · rename_i hx
        exact ⟨hn, fun t h => by rw [hx] at h; cases h⟩
      · rename_i dd hx
        unfold nodB at hn
        split at hn
        · cases hn
        · rename_i hm
          refine ⟨hn, fun t h hm' => ?_⟩
          rw [hx] at h; cases h
          rw [memB_iff.2 hm'] at hm
          cases hm
    cases i with
    | zero =>
      cases k with
      | zero => rfl
      | succ k =>
        simp at h h'; subst h
        exact absurd (dstL_mem h' hd') (tl.2 t hd)
    | succ i =>
      cases k with
      | zero =>
        simp at h h'; subst h'
        exact absurd (dstL_mem h hd) (tl.2 t hd')
      | succ k =>
        simp at h h'
        rw [dst_uni tl.1 h h' hd hd']
end
end Go.Proofs.YtigjjddblijpbaaGreatDoor.Ex
namespace Go.Proofs.YtigjjddblijpbaaGreatDoor.Ex
open Go
set_option linter.unusedSimpArgs false
set_option linter.unusedVariables false

/-- The names below b. -/
def cut (E : Lb) (b : Nat) : Lb := fun l => if l < b then E l else none
/-- The names from n0 on as far as n1 as E2 has them. -/
def glue (E E2 : Lb) (n0 n1 : Nat) : Lb := fun l => if n0 ≤ l ∧ l < n1 then E2 l else E l
theorem cut_lt (E : Lb) {b l : Nat} (h : l < b) : cut E b l = E l := by simp [cut, h]
theorem cut_some {E : Lb} {b l : Nat} {p : Nat × Nat} (h : cut E b l = some p) : l < b ∧ E l = some p := by
  unfold cut at h
  split at h
  · rename_i hl; exact ⟨hl, h⟩
  · cases h
theorem cut_ext (E : Lb) (b : Nat) : Ext (cut E b) E := fun l p h => (cut_some h).2
theorem cut_mono {E E' : Lb} {b b' : Nat} (h : Ext E E') (hb : b ≤ b') : Ext (cut E b) (cut E' b') := fun l p hl => by
  obtain ⟨h1, h2⟩ := cut_some hl
  rw [cut_lt _ (Nat.lt_of_lt_of_le h1 hb)]
  exact h l p h2
theorem cut_self {E : Lb} {b n : Nat} (h : ∀ l, n ≤ l → E l = none) (hb : n ≤ b) : cut E b = E := funext fun l => by
  unfold cut
  split
  · rfl
  · exact (h l (by omega)).symm
/-- What holds when those of X have come up. -/
structure Reg (V : Ev) (E0 : Lb) (w0 : World) (nt : Nat) (ops : List Oper) (S : Nat → St) (R : Nat → Rec) (Vv : Nat → Value) (Hh : Nat → Hp) (X : Nat → Prop) (E : Lb) (a : Act) (w : World) : Prop where
  ext : Ext E0 E
  out : ∀ l, (∀ i, X i → ¬ ((R i).n0 ≤ l ∧ l < (R i).n1)) → E l = E0 l
  has : ∀ b l o, LF S R Hh X b l o → ∃ p, cut E b l = some p ∧ Holds V.Y (cut E b) p w o
  inj : ∀ b b' l l' o o' p p', LF S R Hh X b l o → LF S R Hh X b' l' o' → E l = some p → E l' = some p' → p.1 = p'.1 → l = l'
  low : ∀ b l o p, LF S R Hh X b l o → E l = some p → V.g0 ≤ p.1
  sz : V.g0 ≤ w.heap.size
  k : V.K w
  fr : ∀ b, b < w0.heap.size → (∀ i l p, X i → l ∈ (R i).wr → l < (S 0).nx → E0 l = some p → p.1 ≠ b) → w.heap[b]? = w0.heap[b]?
  nw : ∀ i l p, X i → (R i).n0 ≤ l → l < (R i).n1 → E l = some p → w0.heap.size ≤ p.1 ∨ ∃ k m q, X k ∧ m ∈ (R k).wr ∧ m < (S 0).nx ∧ E0 m = some q ∧ q.1 = p.1
  wl : ∀ i l, X i → l ∈ (R i).wr → ∃ o, (R i).H.get l = some o
  os : w.os = w0.os
  tape : w.tape = w0.tape
  output : w.output = w0.output
  size : w0.heap.size ≤ w.heap.size
  df : a.defers = []
  tsz : a.tmps.size = nt
  tm : ∀ b t u, TF S ops Vv X b t u → ∃ u', conc V.Y (cut E b) u = some u' ∧ a.tmps[t]? = some u'
section
variable {V : Ev} {cl : Cl} {C : Cx} {P : Program} {nt : Nat} {ops : List Oper} {ms : List Nat} {S : Nat → St} {R : Nat → Rec} {Vv : Nat → Value} {Hh : Nat → Hp} {W : Nat → Bool} {E0 E E' : Lb} {w0 w w' : World} {a : Act} {X X' : Nat → Prop}
theorem Reg.has' (h : Reg V E0 w0 nt ops S R Vv Hh X E a w) {b l : Nat} {o : AO} (hl : LF S R Hh X b l o) : ∃ p, E l = some p ∧ l < b ∧ Holds V.Y E p w o := by
  obtain ⟨p, h1, h2⟩ := h.has b l o hl
  obtain ⟨h3, h4⟩ := cut_some h1
  exact ⟨p, h4, h3, h2.ext (cut_ext E b)⟩
/-- The memory that an operation is given holds. -/
theorem Reg.given (d : DT cl C P nt ops ms S R Vv Hh W) (hN : ∀ l, (S 0).nx ≤ l → l < (S ops.length).nx → ∀ o, (S 0).H.get l ≠ some o) (h : Reg V E0 w0 nt ops S R Vv Hh X E a w) (hX : Shutd ops.length R X) {j : Nat} (hj : j < ops.length) (hnj : ¬ X j) (hr : ∀ i, bit (R j).anc i = true → X i) : HR V (cut E (S j).nx) (R j).H w := by
  have hA : ∀ l o, (R j).H.get l = some o → LF S R Hh X (S j).nx l o := fun l o ho => claimA d hN hX hj hnj hr ho
  exact ⟨fun l o ho => h.has _ l o (hA l o ho), fun l l' o o' p p' h1 h2 h3 h4 => h.inj _ _ l l' o o' p p' (hA _ _ h1) (hA _ _ h2) (cut_some h3).2 (cut_some h4).2, fun l o p h1 h2 => h.low _ l o p (hA _ _ h1) (cut_some h2).2, h.sz, h.k⟩
theorem Reg.free (d : DT cl C P nt ops ms S R Vv Hh W) (hN : ∀ l, (S 0).nx ≤ l → E0 l = none) (h : Reg V E0 w0 nt ops S R Vv Hh X E a w) (hX : Shutd ops.length R X) {j : Nat} (hj : j < ops.length) (hnj : ¬ X j) : ∀ l, (S j).nx ≤ l → l < (S (j + 1)).nx → E l = none := by
  intro l h1 h2
  rw [h.out l (fun i hi hl => ?_)]
  · exact hN l (Nat.le_trans (nx_le d (Nat.zero_le j) (by omega)) h1)
  · have hin := hX.1 i hi
    have op := op_at d hin
    rw [op.n0, op.n1] at hl
    rcases Nat.lt_trichotomy i j with e | e | e
    · have := nx_le d (show i + 1 ≤ j by omega) (by omega); omega
    · subst e; exact hnj hi
    · have := nx_le d (show j + 1 ≤ i by omega) (by omega); omega
/-- An operation has come up. -/
theorem Reg.step (d : DT cl C P nt ops ms S R Vv Hh W) (hnd : nodB (dstL ops) = true) (hN : ∀ l, (S 0).nx ≤ l → E0 l = none) (hN' : ∀ l, (S 0).nx ≤ l → l < (S ops.length).nx → ∀ o, (S 0).H.get l ≠ some o)
    (h : Reg V E0 w0 nt ops S R Vv Hh X E a w) (hX : Shutd ops.length R X) {j : Nat} (hj : j < ops.length) (hnj : ¬ X j) (hr : ∀ i, bit (R j).anc i = true → X i) (hX' : ∀ i, X' i ↔ X i ∨ i = j)
    {E2 : Lb} (st : Step V (cut E (S j).nx) (R j).H (S j).nx w E2 (Hh j) (S (j + 1)).nx (R j).wr w') {v' : Value} (hv : conc V.Y E2 (Vv j) = some v') : Reg V E0 w0 nt ops S R Vv Hh X' (glue E E2 (S j).nx (S (j + 1)).nx) (a.put ops[j].dst v') w' := by
  have op := op_at d hj
  have hA : ∀ l o, (R j).H.get l = some o → LF S R Hh X (S j).nx l o := fun l o ho => claimA d hN' hX hj hnj hr ho
  have hwlj : ∀ l, l ∈ (R j).wr → ∃ o, (R j).H.get l = some o := fun l hl => st.wl l hl (op.lt l hl)
  generalize hE' : glue E E2 (S j).nx (S (j + 1)).nx = E'
  have gIn : ∀ l, (S j).nx ≤ l → l < (S (j + 1)).nx → E' l = E2 l := fun l h1 h2 => by rw [← hE']; simp [glue, h1, h2]
  have gOut : ∀ l, (l < (S j).nx ∨ (S (j + 1)).nx ≤ l) → E' l = E l := fun l h1 => by
    rw [← hE']; unfold glue; rw [if_neg (by omega)]
  have hx : Ext E E' := fun l p hl => by
    by_cases h1 : (S j).nx ≤ l ∧ l < (S (j + 1)).nx
    · rw [h.free d hN hX hj hnj l h1.1 h1.2] at hl; cases hl
    · rw [gOut l (by omega)]; exact hl
  have e2 : cut E' (S (j + 1)).nx = E2 := funext fun l => by
    unfold cut
    split
    · rename_i hl
      by_cases h1 : (S j).nx ≤ l
      · exact gIn l h1 hl
      · rw [gOut l (by omega), st.out l (by omega), cut_lt _ (by omega)]
    · rename_i hl
      have := op.le
      rw [st.out l (by omega)]
      unfold cut
      rw [if_neg (by omega)]
  have x2 : ∀ {b : Nat}, (S (j + 1)).nx ≤ b → Ext E2 (cut E' b) := fun hb => by
    rw [← e2]; exact cut_mono (Ext.refl E') hb
  have x2' : Ext E2 E' := by rw [← e2]; exact cut_ext E' _
  have out' : ∀ l, (∀ i, X' i → ¬ ((R i).n0 ≤ l ∧ l < (R i).n1)) → E' l = E0 l := fun l hl => by
    have h1 := hl j ((hX' j).2 (.inr rfl))
    rw [op.n0, op.n1] at h1
    rw [gOut l (by omega)]
    exact h.out l (fun i hi => hl i ((hX' i).2 (.inl hi)))
  -- what was known and is untouched
  have part : ∀ b l o, LF S R Hh X' b l o → (LF S R Hh X b l o ∧ ¬ Tou (R j) l) ∨ (Tou (R j) l ∧ (Hh j).get l = some o ∧ (S (j + 1)).nx ≤ b) := fun b l o hl => by
    rcases hl with ⟨h1, h2, hb⟩ | ⟨i, h1, h2, h3, h4, hb⟩
    · exact .inl ⟨.inl ⟨h1, fun i hi => h2 i ((hX' i).2 (.inl hi)), hb⟩, h2 j ((hX' j).2 (.inr rfl))⟩
    · by_cases e : i = j
      · subst e; exact .inr ⟨h2, h3, hb⟩
      · have hXi : X i := ((hX' i).1 h1).resolve_right e
        refine .inl ⟨.inr ⟨i, hXi, h2, h3, fun k hk => h4 k ((hX' k).2 (.inl hk)), hb⟩, fun ht => ?_⟩
        by_cases hij : i < j
        · exact h4 j ((hX' j).2 (.inr rfl)) hij ht
        · have hin := hX.1 i hXi
          have := conf d hin (show j < i by omega) ht h2 (fun hm => h.wl i l hXi hm)
          exact hnj (hX.2 i j hXi this)
  have size' : w.heap.size ≤ w'.heap.size := st.size
  have keep : ∀ b l o p, LF S R Hh X b l o → ¬ Tou (R j) l → E l = some p → p.1 < w.heap.size → w'.heap[p.1]? = w.heap[p.1]? := fun b l o p hl ht hp hh => by
    refine st.fr p.1 hh (fun m q hm hn hq e => ?_)
    obtain ⟨om, hom⟩ := hwlj m hm
    have := h.inj _ _ m l om o q p (hA m om hom) hl (cut_some hq).2 hp e
    subst this
    exact ht (.inl hm)
  refine ⟨h.ext.trans hx, out', fun b l o hl => ?_, fun b b' l l' o o' p p' hl hl' hp hp' e => ?_, fun b l o p hl hp => ?_, st.hr.sz, st.hr.k, fun b hb hne => ?_, fun i l p hi h1 h2 hp => ?_, fun i l hi hl => ?_, st.os.trans h.os, st.tape.trans h.tape, st.output.trans h.output, Nat.le_trans h.size size', ?_, ?_, ?_⟩
  · rcases part b l o hl with ⟨h1, h2⟩ | ⟨h1, h2, h3⟩
    · obtain ⟨p, h3, h4⟩ := h.has b l o h1
      exact ⟨p, cut_mono hx (Nat.le_refl _) _ _ h3, (h4.ext (cut_mono hx (Nat.le_refl _))).of_block (keep b l o p h1 h2 (cut_some h3).2 h4.lt)⟩
    · obtain ⟨p, h4, h5⟩ := st.hr.has l o h2
      exact ⟨p, x2 h3 _ _ h4, h5.ext (x2 h3)⟩
  · -- one of the operation's own, one that stood
    have mixed : ∀ b l l' o o' p p', Tou (R j) l → (Hh j).get l = some o → LF S R Hh X b l' o' → ¬ Tou (R j) l' → E' l = some p → E' l' = some p' → p.1 = p'.1 → l = l' := fun b l l' o o' p p' ht ho hl' ht' hp hp' e => by
      obtain ⟨p2, h3, _, h4⟩ := h.has' hl'
      have h5 := hx _ _ h3
      rw [hp'] at h5; cases h5
      rcases ht with ht | ht
      · obtain ⟨om, hom⟩ := hwlj l ht
        rw [gOut l (.inl (op.lt l ht))] at hp
        exact h.inj _ _ l l' om o' p p' (hA l om hom) hl' hp h3 e
      · rw [op.n0, op.n1] at ht
        rw [gIn l ht.1 ht.2] at hp
        rcases st.nw l p ht.1 ht.2 hp with h6 | ⟨m, q, h6, h7, h8, h9⟩
        · have := h4.lt; omega
        · obtain ⟨om, hom⟩ := hwlj m h6
          have := h.inj _ _ m l' om o' q p' (hA m om hom) hl' (cut_some h8).2 h3 (h9.trans e)
          subst this
          exact absurd (.inl h6) ht'
    rcases part b l o hl with ⟨h1, h2⟩ | ⟨h1, h2, _⟩ <;> rcases part b' l' o' hl' with ⟨h1', h2'⟩ | ⟨h1', h2', _⟩
    · obtain ⟨q, h3, _⟩ := h.has' h1
      obtain ⟨q', h3', _⟩ := h.has' h1'
      have h5 := hx _ _ h3
      rw [hp] at h5; cases h5
      have h5 := hx _ _ h3'
      rw [hp'] at h5; cases h5
      exact h.inj _ _ l l' o o' p p' h1 h1' h3 h3' e
    · exact (mixed b l' l o' o p' p h1' h2' h1 h2 hp' hp e.symm).symm
    · exact mixed b' l l' o o' p p' h1 h2 h1' h2' hp hp' e
    · obtain ⟨q, h3, _⟩ := st.hr.has l o h2
      obtain ⟨q', h3', _⟩ := st.hr.has l' o' h2'
      have h5 := x2' _ _ h3
      rw [hp] at h5; cases h5
      have h5 := x2' _ _ h3'
      rw [hp'] at h5; cases h5
      exact st.hr.inj l l' o o' p p' h2 h2' h3 h3' e
  · rcases part b l o hl with ⟨h1, h2⟩ | ⟨h1, h2, _⟩
    · obtain ⟨q, h3, _⟩ := h.has' h1
      have h5 := hx _ _ h3
      rw [hp] at h5; cases h5
      exact h.low _ l o p h1 h3
    · obtain ⟨q, h3, _⟩ := st.hr.has l o h2
      have h5 := x2' _ _ h3
      rw [hp] at h5; cases h5
      exact st.hr.low l o p h2 h3
  · have e1 := h.fr b hb (fun i l p hi => hne i l p ((hX' i).2 (.inl hi)))
    rw [st.fr b (Nat.lt_of_lt_of_le hb h.size) (fun m q hm hn hq => ?_), e1]
    have hq := (cut_some hq).2
    by_cases hin : ∃ i, X i ∧ (R i).n0 ≤ m ∧ m < (R i).n1
    · obtain ⟨i, hi, h1, h2⟩ := hin
      rcases h.nw i m q hi h1 h2 hq with h3 | ⟨k, m', q', h3, h4, h5, h6, h7⟩
      · omega
      · rw [← h7]
        exact hne k m' q' ((hX' k).2 (.inl h3)) h4 h5 h6
    · have e2 := h.out m (fun i hi hl => hin ⟨i, hi, hl⟩)
      rw [e2] at hq
      by_cases h0 : m < (S 0).nx
      · exact hne j m q ((hX' j).2 (.inr rfl)) hm h0 hq
      · rw [hN m (by omega)] at hq
        cases hq
  · by_cases e : i = j
    · subst e
      rw [op.n0] at h1
      rw [op.n1] at h2
      rw [gIn l h1 h2] at hp
      rcases st.nw l p h1 h2 hp with h3 | ⟨m, q, h3, h4, h5, h6⟩
      · exact .inl (Nat.le_trans h.size h3)
      · have h5 := (cut_some h5).2
        by_cases hin : ∃ i, X i ∧ (R i).n0 ≤ m ∧ m < (R i).n1
        · obtain ⟨i', hi', h7, h8⟩ := hin
          rcases h.nw i' m q hi' h7 h8 h5 with h9 | ⟨k, m', q', g1, g2, g3, g4, g5⟩
          · exact .inl (by omega)
          · exact .inr ⟨k, m', q', (hX' k).2 (.inl g1), g2, g3, g4, g5.trans h6⟩
        · have e2 := h.out m (fun i hi hl => hin ⟨i, hi, hl⟩)
          rw [e2] at h5
          by_cases h0 : m < (S 0).nx
          · exact .inr ⟨i, m, q, hi, h3, h0, h5, h6⟩
          · rw [hN m (by omega)] at h5
            cases h5
    · have hXi : X i := ((hX' i).1 hi).resolve_right e
      have hin := hX.1 i hXi
      have opi := op_at d hin
      have hl : l < (S j).nx ∨ (S (j + 1)).nx ≤ l := by
        rw [opi.n0] at h1
        rw [opi.n1] at h2
        rcases Nat.lt_trichotomy i j with e | e | e
        · have := nx_le d (show i + 1 ≤ j by omega) (by omega); omega
        · omega
        · have := nx_le d (show j + 1 ≤ i by omega) (by omega); omega
      rw [gOut l hl] at hp
      rcases h.nw i l p hXi h1 h2 hp with h3 | ⟨k, m', q', g1, g2⟩
      · exact .inl h3
      · exact .inr ⟨k, m', q', (hX' k).2 (.inl g1), g2⟩
  · by_cases e : i = j
    · subst e; exact hwlj l hl
    · exact h.wl i l (((hX' i).1 hi).resolve_right e) hl
  · rw [put_defers]; exact h.df
  · cases hd : ops[j].dst with
    | none => exact h.tsz
    | some t => simpa [Act.put] using h.tsz
  · have hput := op.put
    intro b t u ht
    have old : ops[j].dst ≠ some t → (a.put ops[j].dst v').tmps[t]? = a.tmps[t]? := fun hne => by
      cases hd : ops[j].dst with
      | none => rfl
      | some s =>
        simp only [Act.put]
        rw [Array.getElem?_setIfInBounds_ne (fun e => hne (by rw [hd, e]))]
    rcases ht with ⟨h1, h2, hb⟩ | ⟨i, o, h1, h2, h3, h4, hb⟩
    · obtain ⟨u', h5, h6⟩ := h.tm b t u (.inl ⟨h1, fun i o hi => h2 i o ((hX' i).2 (.inl hi)), hb⟩)
      exact ⟨u', conc_ext (cut_mono hx (Nat.le_refl _)) _ _ h5, by rw [old (h2 j _ ((hX' j).2 (.inr rfl)) (List.getElem?_eq_getElem hj))]; exact h6⟩
    · by_cases e : i = j
      · subst e
        rw [List.getElem?_eq_getElem hj] at h2
        cases h2
        subst h4
        refine ⟨v', conc_ext (x2 hb) _ _ hv, ?_⟩
        unfold putT at hput
        rw [h3] at hput
        simp only at hput
        split at hput
        · rename_i hlt
          rw [nblt] at hlt
          have hlt := of_decide_eq_true hlt
          rw [h3]
          simp [Act.put, h.tsz, hlt]
        · cases hput
      · have hXi : X i := ((hX' i).1 h1).resolve_right e
        obtain ⟨u', h5, h6⟩ := h.tm b t u (.inr ⟨i, o, hXi, h2, h3, h4, hb⟩)
        refine ⟨u', conc_ext (cut_mono hx (Nat.le_refl _)) _ _ h5, ?_⟩
        rw [old (fun hd => e (dst_uni hnd h2 (List.getElem?_eq_getElem hj) h3 hd))]
        exact h6
end
end Go.Proofs.YtigjjddblijpbaaGreatDoor.Ex
namespace Go.Proofs.YtigjjddblijpbaaGreatDoor.Ex
open Go
set_option linter.unusedSimpArgs false
set_option linter.unusedVariables false

section
variable {V : Ev} {cl : Cl} {C : Cx} {P : Program} {nt : Nat}
theorem draw_static (hcs : ClS cl) {ops : List Oper} {st st' : St} {wr : List Nat} {rr : Recs} (h : evDraw2 cl C P nt ops st = some (st', wr, rr)) : st.nx ≤ st'.nx ∧ Syn st.H st.nx st'.H st'.nx wr := by
  obtain ⟨ms, S, R, Vv, Hh, W, d, rfl, rfl, hwr⟩ := evDraw2_dt hcs h
  refine ⟨nx_le d (Nat.zero_le _) (Nat.le_refl _), fun l o hl hm hn => ?_⟩
  rcases claimS d _ (Nat.le_refl _) l o hl with ⟨h1, _⟩ | ⟨i, h1, h2, _⟩
  · exact h1
  · exfalso
    rcases h2 with h2 | h2
    · exact hm ((hwr l).2 ⟨i, h1, h2⟩)
    · have op := op_at d h1
      rw [op.n0, op.n1] at h2
      have := nx_le d (Nat.zero_le i) (by omega)
      have := nx_le d (show i + 1 ≤ ops.length by omega) (Nat.le_refl _)
      omega
theorem mem_tmpsL {t : Nat} : ∀ {l : List Operand}, Operand.tmp t ∈ l → t ∈ tmpsL l
  | x :: l, h => by
    cases h with
    | head => exact List.mem_cons_self ..
    | tail _ h =>
      have := mem_tmpsL h
      unfold tmpsL
      split
      · rename_i h; cases h
      · rename_i e; cases e; exact List.mem_cons_of_mem _ this
      · rename_i e; cases e; exact this
theorem wantB_ok2 {E : Lb} {tm : Tr Value} {a : Act} {ops : Array Oper} {o : Oper} {b : Bool} (h : wantB ops.toList tm o.guard = some b) (ht : ∀ t, t ∈ guardT ops.toList o.guard → ∀ v, tm.get t = some v → ∃ v', conc V.Y E v = some v' ∧ a.tmps[t]? = some v') : Region.wanted o (yielded ops a.tmps) = b := by
  unfold wantB at h
  unfold Region.wanted
  split at h
  · rename_i hg
    cases h
    rw [hg]
  · rename_i j want hg
    rw [hg]
    split at h
    · cases h
    · rename_i o' ho
      split at h
      · cases h
      · rename_i t hd
        have hmem : t ∈ guardT ops.toList o.guard := by
          rw [hg]
          simp only [guardT, ho, hd]
          exact List.mem_cons_self ..
        rw [nth_eq, Array.getElem?_toList] at ho
        split at h
        · rename_i b' hb
          cases h
          obtain ⟨v', h1, h2⟩ := ht t hmem _ hb
          cases h1
          simp only [yielded, ho, Option.bind_some, hd, h2]
          cases b' <;> cases want <;> rfl
        · rename_i hb
          cases h
          obtain ⟨v', h1, h2⟩ := ht t hmem _ hb
          cases h1
          simp only [yielded, ho, Option.bind_some, hd, h2]
          rfl
        · cases h
/-- A region that draws its order. -/
theorem draw_ok (hm : P.follows .mixedOrders = true) (hC : CxOK C P V.Y) (hcl : ClOK V P cl) (hcs : ClS cl) {ops : Array Oper} (hnd : nodB (dstL ops.toList) = true) {st st' : St} {wr : List Nat} {rr : Recs} (h : evDraw2 cl C P nt ops.toList st = some (st', wr, rr))
    {id : Nat} {E : Lb} {a : Act} {w : World} (hS : SR V E st nt a w) (hN : ∀ l, st.nx ≤ l → E l = none) {Q : Exit → Act → World → Prop}
    (hQ : ∀ E' a' w', SR V E' st' nt a' w' → Step V E st.H st.nx w E' st'.H st'.nx wr w' → Q .normal a' w') : (Code.region id ops true).wp P Q a w := by
  obtain ⟨ms, S, R, Vv, Hh, W, d, rfl, rfl, hwr⟩ := evDraw2_dt hcs h
  have hlen : ops.toList.length = ops.size := by simp
  have at1 : ∀ (i : Nat) (o : Oper), ops[i]? = some o → ops.toList[i]? = some o := fun i o ho => by rw [Array.getElem?_toList]; exact ho
  have hN' : ∀ l, (S 0).nx ≤ l → l < (S ops.toList.length).nx → ∀ o, (S 0).H.get l ≠ some o := fun l h1 h2 o ho => by
    obtain ⟨p, hp, _⟩ := hS.hr.has l o ho
    rw [hN l h1] at hp; cases hp
  have he : earlier ops = true := by
    unfold earlier
    rw [List.all_eq_true]
    intro i hi
    cases ho : ops[i]? with
    | none => rfl
    | some o =>
      simp only [Option.map_some, Option.getD_some, Array.all_eq_true_iff_forall_mem, Bool.or_eq_true, decide_eq_true_eq]
      intro e hee
      cases hb : Region.binds .any e with
      | false => exact .inl rfl
      | true => exact .inr ((anc_of d (at1 i o ho)).1 e (by simpa using hee) hb)
  have shut : ∀ listed : Array Bool, listed.size = ops.size → closed ops listed → Shutd ops.toList.length R (fun i => listed.getD i false = true) := fun listed hs hc => by
    have hlt : ∀ i, listed.getD i false = true → i < ops.size := fun i hi => by
      by_cases h : i < listed.size
      · omega
      · simp [h] at hi
    refine ⟨fun i hi => by rw [hlen]; exact hlt i hi, fun k => ?_⟩
    induction k using Nat.strongRecOn with
    | ind k ih =>
      intro i hk hb
      have hkl := hlt k hk
      have ho : ops[k]? = some ops[k] := Array.getElem?_eq_getElem hkl
      obtain ⟨h1, h2⟩ := anc_of d (at1 k _ ho)
      obtain ⟨e, hee, hbe, h3⟩ := h2 i hb
      have hl := hc k _ ho hk e (by simpa using hee) hbe
      rcases h3 with rfl | h3
      · exact hl
      · exact ih e.on (h1 e hee hbe) i hl h3
  refine wp_region_any hm ?_
  refine wpAny_inv he (fun listed a' w' => (∀ i, listed.getD i false = true → i < ops.toList.length) ∧ ∃ E', Reg V E w nt ops.toList S R Vv Hh (fun i => listed.getD i false = true) E' a' w') ?_ ?_ _ _ _ _ (by simp) ?_ (by simp) ⟨fun i h => ?_, E, ?_⟩
  · rintro listed a1 w1 hs hc ⟨hin, E1, hR⟩ j hj
    obtain ⟨h1, o, ho, hdep⟩ := mem_ready.1 hj
    have hlt : j < ops.size := (Array.getElem?_eq_some_iff.1 ho).1
    have hl : j < listed.size := by omega
    have hjl : j < ops.toList.length := by omega
    have h2 : ¬ listed.getD j false = true := by simp [hl] at h1 ⊢; exact h1
    have hX := shut listed hs hc
    have hr : ∀ i, bit (R j).anc i = true → listed.getD i false = true := fun i hb => by
      obtain ⟨g1, g2⟩ := anc_of d (at1 j o ho)
      obtain ⟨e, hee, hbe, h3⟩ := g2 i hb
      have hl := hdep e (by simpa using hee) hbe
      rcases h3 with rfl | h3
      · exact hl
      · exact hX.2 e.on i hl h3
    have hX' : ∀ i, (listed.setIfInBounds j true).getD i false = true ↔ listed.getD i false = true ∨ i = j := fun i => by
      by_cases e : i = j
      · subst e; simp [getD_self hl]
      · rw [getD_set_ne false (fun h => e h.symm)]; simp [e]
    have ho' : ops.toList[j] = o := by
      have := at1 j o ho
      rw [List.getElem?_eq_getElem hjl] at this
      exact Option.some.inj this
    have op := op_at d hjl
    have fin : ∀ (v' : Value) (E' : Lb) (w' : World), conc V.Y E' (Vv j) = some v' → Step V (cut E1 (S j).nx) (R j).H (S j).nx w1 E' (Hh j) (S (j + 1)).nx (R j).wr w' → (∀ i, (listed.setIfInBounds j true).getD i false = true → i < ops.toList.length) ∧ ∃ E', Reg V E w nt ops.toList S R Vv Hh (fun i => (listed.setIfInBounds j true).getD i false = true) E' (a1.put o.dst v') w' := fun v' E' w' hv st =>
      ⟨fun i hi => by rcases (hX' i).1 hi with h | h; exact hin i h; omega, glue E1 E' (S j).nx (S (j + 1)).nx, by rw [← ho']; exact hR.step d hnd hN hN' hX hjl h2 hr hX' st hv⟩
    have given := hR.given d hN' hX hjl h2 hr
    have free : ∀ l, (S j).nx ≤ l → cut E1 (S j).nx l = none := fun l hl => by unfold cut; rw [if_neg (by omega)]
    have look : ∀ t, t ∈ guardT ops.toList o.guard ++ tmpsL o.op.operands.toList → ∀ u, (S j).tm.get t = some u → ∃ u', conc V.Y (cut E1 (S j).nx) u = some u' ∧ a1.tmps[t]? = some u' := fun t ht u hu =>
      hR.tm _ t u (claimTT d hX hjl h2 hr (by rw [ho']; exact ht) hu)
    rw [ho'] at op
    have hwant := wantB_ok2 op.hwant (fun t ht => look t (List.mem_append.2 (.inl ht)))
    refine wpOp_step ho (fun K hK => ?_)
    rcases op.run with ⟨g1, g2, g3, g4, g5, g6⟩ | ⟨g1, hop⟩
    · rw [if_neg (by rw [hwant, g1]; simp)]
      refine hK _ _ (fin undef (cut E1 (S j).nx) w1 (by rw [g2]; rfl) ?_)
      rw [g3, g4, g5, g6]
      rw [g5] at given
      exact Step.refl given _
    · rw [if_pos (by rw [hwant, g1])]
      obtain ⟨_, hok⟩ := evOp_ok hC hcl hop
      refine hok _ w1 a1 given free (fun x hx v hv => ?_) K Q (fun v' E' w' hv hst => hK _ _ (fin v' E' w' hv hst))
      unfold ev at hv
      split at hv
      · rename_i t
        obtain ⟨v', k1, k2⟩ := look t (List.mem_append.2 (.inr (mem_tmpsL (by simpa using hx)))) v hv
        simp [Act.eval, k2, k1]
      · split at hv
        · rename_i hl
          cases hv
          exact lit_conc hl
        · cases hv
      · cases hv
      · cases hv; rfl
  · rintro listed a1 w1 hall ⟨hin, E1, hR⟩
    have hX : (fun i => listed.getD i false = true) = (· < ops.toList.length) := funext fun i => propext ⟨hin i, fun hi => hall i (by omega)⟩
    rw [hX] at hR
    have hS' := claimS d _ (Nat.le_refl _)
    have hHR : HR V E1 (S ops.toList.length).H w1 := ⟨fun l o ho => (hR.has' (hS' l o ho)).imp fun p h => ⟨h.1, h.2.2⟩, fun l l' o o' p p' h1 h2 => hR.inj _ _ l l' o o' p p' (hS' _ _ h1) (hS' _ _ h2), fun l o p h1 => hR.low _ l o p (hS' _ _ h1), hR.sz, hR.k⟩
    refine hQ E1 a1 w1 ⟨hR.df, hR.tsz, fun t v hv => (hR.tm _ t v (claimT d _ (Nat.le_refl _) t v hv)).imp fun u h => ⟨conc_ext (cut_ext E1 _) _ _ h.1, h.2⟩, hHR⟩ ?_
    have hst := draw_static hcs h
    refine ⟨hR.ext, fun l hl => hR.out l (fun i hi h1 => ?_), hst.1, hHR, fun l hl hn => ?_, fun b hb hne => hR.fr b hb (fun i l p hi hl hn => hne l p ((hwr l).2 ⟨i, hi, hl⟩) hn), fun l p h1 h2 hp => ?_, hst.2, hR.os, hR.tape, hR.output, hR.size⟩
    · have hi : i < ops.toList.length := hi
      have op := op_at d hi
      rw [op.n0, op.n1] at h1
      have := nx_le d (Nat.zero_le i) (by omega)
      have := nx_le d (show i + 1 ≤ ops.toList.length by omega) (Nat.le_refl _)
      omega
    · obtain ⟨i, hi, hli⟩ := (hwr l).1 hl
      clear hl
      induction i using Nat.strongRecOn with
      | ind i ih =>
        obtain ⟨o, ho⟩ := hR.wl i l hi hli
        rcases claimS d i (by omega) l o ((op_at d hi).hb l o ho).1 with ⟨h1, _⟩ | ⟨k, h1, h2, _⟩
        · exact ⟨o, h1⟩
        · have hk : k < i := h1
          rcases h2 with h2 | h2
          · exact ih k hk (by omega) h2
          · exfalso
            have op := op_at d (show k < ops.toList.length by omega)
            rw [op.n0] at h2
            have := nx_le d (Nat.zero_le k) (by omega)
            omega
    · by_cases hr : ∃ i, i < ops.toList.length ∧ (R i).n0 ≤ l ∧ l < (R i).n1
      · obtain ⟨i, hi, h3, h4⟩ := hr
        rcases hR.nw i l p hi h3 h4 hp with h5 | ⟨k, m, q, g1, g2, g3⟩
        · exact .inl h5
        · exact .inr ⟨m, q, (hwr m).2 ⟨k, g1, g2⟩, g3⟩
      · have := hR.out l (fun i hi h3 => hr ⟨i, hi, h3⟩)
        rw [this, hN l h1] at hp
        cases hp
  · intro i o _ h
    rw [Array.getD_eq_getD_getElem?, Array.getElem?_replicate] at h
    split at h <;> simp at h
  · rw [Array.getD_eq_getD_getElem?, Array.getElem?_replicate] at h
    split at h <;> simp at h
  · have no : ∀ i, ¬ (Array.replicate ops.size false).getD i false = true := fun i h => by
      rw [Array.getD_eq_getD_getElem?, Array.getElem?_replicate] at h
      split at h <;> simp at h
    have hLF : ∀ b l o, LF S R Hh (fun i => (Array.replicate ops.size false).getD i false = true) b l o → (S 0).H.get l = some o ∧ (S 0).nx ≤ b := fun b l o h => by
      rcases h with ⟨h, _, hb⟩ | ⟨i, h, _⟩
      · exact ⟨h, hb⟩
      · exact absurd h (no i)
    refine ⟨Ext.refl E, fun _ _ => rfl, fun b l o h => ?_, fun b b' l l' o o' p p' h h' => hS.hr.inj l l' o o' p p' (hLF _ _ _ h).1 (hLF _ _ _ h').1, fun b l o p h => hS.hr.low l o p (hLF _ _ _ h).1, hS.hr.sz, V.hK _ _ hS.hr.k (fun _ _ => rfl), fun _ _ _ => rfl, fun i l p h => absurd h (no i), fun i l h => absurd h (no i), rfl, rfl, rfl, Nat.le_refl _, hS.df, hS.sz, fun b t u h => ?_⟩
    · obtain ⟨h0, hb⟩ := hLF _ _ _ h
      obtain ⟨p, h1, h2⟩ := hS.hr.has l o h0
      rw [cut_self hN hb]
      exact ⟨p, h1, h2.of_block rfl⟩
    · rcases h with ⟨h, _, hb⟩ | ⟨i, o, h, _⟩
      · rw [cut_self hN hb]; exact hS.tm t u h
      · exact absurd h (no i)
end
end Go.Proofs.YtigjjddblijpbaaGreatDoor.Ex
namespace Go.Proofs.YtigjjddblijpbaaGreatDoor.Ex
open Go
set_option linter.unusedSimpArgs false
set_option linter.unusedVariables false

def exq : Ec → Exit
  | .normal => .normal
  | .exit i => .exit i
  | .ret => .ret
section
variable {V : Ev} {cl : Cl} {C : Cx} {P : Program} {nt fl : Nat}
theorem iter_s (f : St → Out) (n : Nat) (st : St) : iter f (n + 1) st = (match f st with
    | some (.normal, st', wr) => match iter f n st' with
      | some (x, st'', wr') => some (x, st'', wr ++ wr')
      | none => none
    | r => r) := rfl
/-- What holds of a code whatever the world. -/
def CSt (f : St → Out) : Prop := ∀ st x st' wr, f st = some (x, st', wr) → st.nx ≤ st'.nx ∧ Syn st.H st.nx st'.H st'.nx wr
theorem cSt_seq {f g : St → Out} (hf : CSt f) (hg : CSt g) : CSt (cSeq f g) := fun st x st' wr h => by
  unfold cSeq at h
  split at h
  · rename_i st1 w1 h1
    split at h
    · rename_i x2 st2 w2 h2
      cases h
      obtain ⟨a1, a2⟩ := hf _ _ _ _ h1
      obtain ⟨b1, b2⟩ := hg _ _ _ _ h2
      exact ⟨Nat.le_trans a1 b1, a2.trans b2 a1 b1⟩
    · cases h
  · exact hf _ _ _ _ h
theorem cSt_iter {f : St → Out} (hf : CSt f) : ∀ n, CSt (iter f n)
  | 0 => fun st x st' wr h => by cases h
  | n + 1 => fun st x st' wr h => by
    rw [iter_s] at h
    split at h
    · rename_i st1 w1 h1
      split at h
      · rename_i x2 st2 w2 h2
        cases h
        obtain ⟨a1, a2⟩ := hf _ _ _ _ h1
        obtain ⟨b1, b2⟩ := cSt_iter hf n _ _ _ _ h2
        exact ⟨Nat.le_trans a1 b1, a2.trans b2 a1 b1⟩
      · cases h
    · exact hf _ _ _ _ h
theorem evX_static {lp : Code → (St → Out) → St → Out} (hlp : ∀ b f, CSt f → CSt (lp b f)) (hcs : ClS cl) : ∀ (c : Code), CSt (evX lp cl C P nt c) := by
  have triv : ∀ st : St, st.nx ≤ st.nx ∧ Syn st.H st.nx st.H st.nx [] := fun st => ⟨Nat.le_refl _, Syn.refl _ _ _ _⟩
  intro c
  induction c with
  | skip => intro st x st' wr h; cases h; exact triv _
  | label l => intro st x st' wr h; cases h; exact triv _
  | exit id => intro st x st' wr h; cases h; exact triv _
  | ret => intro st x st' wr h; cases h; exact triv _
  | goto l => intro st x st' wr h; cases h
  | refuse s => intro st x st' wr h; cases h
  | scope b ih => intro st x st' wr h; cases h
  | rangeFunc f p x y ih1 ih2 => intro st x st' wr h; cases h
  | region id ops draw =>
    intro st x st' wr h
    have h : cRegion cl C P nt id ops draw st = some (x, st', wr) := h
    unfold cRegion at h
    split at h
    · split at h
      · rename_i hl; cases h; exact evList_static hcs _ _ _ _ _ hl
      · cases h
    · split at h
      · cases h
      · split at h
        · rename_i hl; cases h; exact draw_static hcs hl
        · cases h
  | seq a b iha ihb => exact cSt_seq iha ihb
  | cond c a b iha ihb =>
    intro st x st' wr h
    have h : cCond c (evX lp cl C P nt a) (evX lp cl C P nt b) st = some (x, st', wr) := h
    unfold cCond at h
    split at h
    · exact iha _ _ _ _ h
    · exact ihb _ _ _ _ h
    · cases h
  | block id b ih =>
    intro st x st' wr h
    have h : cBlock id (evX lp cl C P nt b) st = some (x, st', wr) := h
    unfold cBlock at h
    split at h
    · rename_i h1
      split at h <;> (cases h; exact ih _ _ _ _ h1)
    · exact ih _ _ _ _ h
  | loop b ih => exact hlp b _ ih
theorem evC_static (hcs : ClS cl) : ∀ (c : Code), CSt (evC cl C P nt fl c) := evX_static (fun b f hf => cSt_iter hf fl) hcs
/-- What a code leaves is as it was reckoned. -/
def COK (V : Ev) (P : Program) (nt : Nat) (c : Code) (f : St → Out) : Prop := ∀ st x st' wr, f st = some (x, st', wr) → ∀ E a w, SR V E st nt a w → (∀ l, st.nx ≤ l → E l = none) →
  ∀ Q : Exit → Act → World → Prop, (∀ E' a' w', SR V E' st' nt a' w' → Step V E st.H st.nx w E' st'.H st'.nx wr w' → Q (exq x) a' w') → c.wp P Q a w
theorem loop_ok {b : Code} {f : St → Out} (hf : CSt f) (ih : COK V P nt b f) : COK V P nt (.loop b) (iter f fl) := by
  intro st x st' wr h E a w hS hn Q hQ
  refine wp_loop_rounds fl ?_
  have key : ∀ (n : Nat) (st : St) (x : Ec) (st' : St) (wr : List Nat), iter f n st = some (x, st', wr) → ∀ E a w, SR V E st nt a w → (∀ l, st.nx ≤ l → E l = none) →
      ∀ Q : Exit → Act → World → Prop, (∀ E' a' w', SR V E' st' nt a' w' → Step V E st.H st.nx w E' st'.H st'.nx wr w' → Q (exq x) a' w') → Code.rounds P b Q n a w := by
    intro n
    induction n with
    | zero => intro st x st' wr h; cases h
    | succ n ihn =>
      intro st x st' wr h E a w hS hn Q hQ
      rw [iter_s] at h
      split at h
      · rename_i st1 w1 h1
        split at h
        · rename_i x2 st2 w2 h2
          cases h
          have a1 := hf _ _ _ _ h1
          have b1 := cSt_iter hf n _ _ _ _ h2
          refine ih _ _ _ _ h1 E a w hS hn _ (fun E1 a1' w1' hS1 hst1 => ?_)
          refine ihn _ _ _ _ h2 E1 a1' w1' hS1 (fun l h3 => ?_) Q (fun E2 a2 w2 hS2 hst2 => hQ E2 a2 w2 hS2 (hst1.trans hst2))
          rw [hst1.out l (.inr h3)]
          exact hn l (Nat.le_trans a1.1 h3)
        · cases h
      · rename_i hne
        refine ih _ _ _ _ h E a w hS hn _ (fun E1 a1' w1' hS1 hst1 => ?_)
        have := hQ E1 a1' w1' hS1 hst1
        cases x with
        | normal => exact absurd h (hne _ _)
        | exit i => exact this
        | ret => exact this
  exact key fl st x st' wr h E a w hS hn Q hQ
theorem evX_ok {lp : Code → (St → Out) → St → Out} (hls : ∀ b f, CSt f → CSt (lp b f)) (hlp : ∀ b f, CSt f → COK V P nt b f → COK V P nt (.loop b) (lp b f)) (hm : P.follows .mixedOrders = true) (hC : CxOK C P V.Y) (hcl : ClOK V P cl) (hcs : ClS cl) : ∀ (c : Code), COK V P nt c (evX lp cl C P nt c) := by
  intro c
  induction c with
  | skip => intro st x st' wr h E a w hS hn Q hQ; cases h; exact wp_skip (hQ E a w hS (Step.refl hS.hr _))
  | label l => intro st x st' wr h E a w hS hn Q hQ; cases h; exact wp_label (hQ E a w hS (Step.refl hS.hr _))
  | exit id => intro st x st' wr h E a w hS hn Q hQ; cases h; exact wp_exit (hQ E a w hS (Step.refl hS.hr _))
  | ret => intro st x st' wr h E a w hS hn Q hQ; cases h; exact wp_ret (hQ E a w hS (Step.refl hS.hr _))
  | goto l => intro st x st' wr h; cases h
  | refuse s => intro st x st' wr h; cases h
  | scope b ih => intro st x st' wr h; cases h
  | rangeFunc f p x y ih1 ih2 => intro st x st' wr h; cases h
  | region id ops draw =>
    intro st x st' wr h E a w hS hn Q hQ
    have h : cRegion cl C P nt id ops draw st = some (x, st', wr) := h
    unfold cRegion at h
    split at h
    · split at h
      · rename_i hl; cases h
        exact wp_region_list ((evList_ok hC hcl ops _ _ _ _ hl).2 E a w hS hn Q hQ)
      · cases h
    · split at h
      · cases h
      · rename_i hnd
        split at h
        · rename_i hl; cases h
          exact draw_ok hm hC hcl hcs hnd hl hS hn hQ
        · cases h
  | seq c1 c2 iha ihb =>
    intro st x st' wr h E a w hS hn Q hQ
    have h : cSeq (evX lp cl C P nt c1) (evX lp cl C P nt c2) st = some (x, st', wr) := h
    unfold cSeq at h
    split at h
    · rename_i st1 w1 h1
      split at h
      · rename_i x2 st2 w2 h2
        cases h
        have a1 := evX_static hls hcs c1 _ _ _ _ h1
        have b1 := evX_static hls hcs c2 _ _ _ _ h2
        refine wp_seq (iha _ _ _ _ h1 E a w hS hn _ (fun E1 a1' w1' hS1 hst1 => ?_))
        refine ihb _ _ _ _ h2 E1 a1' w1' hS1 (fun l h3 => ?_) Q (fun E2 a2 w2 hS2 hst2 => hQ E2 a2 w2 hS2 (hst1.trans hst2))
        rw [hst1.out l (.inr h3)]
        exact hn l (Nat.le_trans a1.1 h3)
      · cases h
    · rename_i hne
      refine wp_seq (iha _ _ _ _ h E a w hS hn _ (fun E1 a1' w1' hS1 hst1 => ?_))
      have := hQ E1 a1' w1' hS1 hst1
      cases x with
      | normal => exact absurd h (hne _ _)
      | exit i => exact this
      | ret => exact this
  | cond c c1 c2 iha ihb =>
    intro st x st' wr h E a w hS hn Q hQ
    have h : cCond c (evX lp cl C P nt c1) (evX lp cl C P nt c2) st = some (x, st', wr) := h
    unfold cCond at h
    split at h
    · rename_i hc
      have e := ev_ok hS.tm c _ hc
      exact wp_cond_true (Option.some.inj e).symm (iha _ _ _ _ h E a w hS hn Q hQ)
    · rename_i hc
      have e := ev_ok hS.tm c _ hc
      exact wp_cond_false (Option.some.inj e).symm (ihb _ _ _ _ h E a w hS hn Q hQ)
    · cases h
  | block id b ih =>
    intro st x st' wr h E a w hS hn Q hQ
    have h : cBlock id (evX lp cl C P nt b) st = some (x, st', wr) := h
    unfold cBlock at h
    split at h
    · rename_i i st1 w1 h1
      split at h
      · rename_i hi
        have hi := Nat.eq_of_beq_eq_true hi
        cases h
        refine wp_block (ih _ _ _ _ h1 E a w hS hn _ (fun E1 a1' w1' hS1 hst1 => ?_))
        show if i = id then Q .normal a1' w1' else Q (.exit i) a1' w1'
        rw [if_pos hi]
        exact hQ E1 a1' w1' hS1 hst1
      · rename_i hi
        cases h
        refine wp_block (ih _ _ _ _ h1 E a w hS hn _ (fun E1 a1' w1' hS1 hst1 => ?_))
        show if i = id then Q .normal a1' w1' else Q (.exit i) a1' w1'
        rw [if_neg (fun e => by subst e; simp at hi)]
        exact hQ E1 a1' w1' hS1 hst1
    · rename_i hne
      refine wp_block (ih _ _ _ _ h E a w hS hn _ (fun E1 a1' w1' hS1 hst1 => ?_))
      have := hQ E1 a1' w1' hS1 hst1
      cases x with
      | normal => exact this
      | exit i => exact absurd h (hne _ _ _)
      | ret => exact this
  | loop b ih => exact hlp b _ (evX_static hls hcs b) ih
theorem evC_ok (hm : P.follows .mixedOrders = true) (hC : CxOK C P V.Y) (hcl : ClOK V P cl) (hcs : ClS cl) : ∀ (c : Code), COK V P nt c (evC cl C P nt fl c) := evX_ok (fun b f hf => cSt_iter hf fl) (fun b f hf h => loop_ok hf h) hm hC hcl hcs
end
end Go.Proofs.YtigjjddblijpbaaGreatDoor.Ex
namespace Go.Proofs.YtigjjddblijpbaaGreatDoor.Ex
open Go
set_option linter.unusedSimpArgs false
set_option linter.unusedVariables false

theorem subL_spec : ∀ {l l' : List Nat}, subL l l' = true → ∀ x, x ∈ l → x ∈ l'
  | [], _, _, x, h => by cases h
  | y :: l, l', h, x, hx => by
    unfold subL at h
    split at h
    · rename_i hy
      cases hx with
      | head => exact memB_iff.1 hy
      | tail _ hx => exact subL_spec h x hx
    · cases h
theorem leftL_mem {seen : List Nat} : ∀ {ts : List Nat} {t : Nat}, t ∈ leftL seen ts ↔ t ∈ ts ∧ t ∉ seen
  | [], t => by simp [leftL]
  | s :: ts, t => by
    unfold leftL
    split
    · rename_i h
      rw [leftL_mem (ts := ts), List.mem_cons]
      constructor
      · rintro ⟨h1, h2⟩; exact ⟨.inr h1, h2⟩
      · rintro ⟨rfl | h1, h2⟩
        · exact absurd (memB_iff.1 h) h2
        · exact ⟨h1, h2⟩
    · rename_i h
      have hs : s ∉ seen := fun hm => by rw [memB_iff.2 hm] at h; cases h
      rw [List.mem_cons, leftL_mem (ts := ts), List.mem_cons]
      constructor
      · rintro (rfl | ⟨h1, h2⟩)
        · exact ⟨.inl rfl, hs⟩
        · exact ⟨.inr h1, h2⟩
      · rintro ⟨rfl | h1, h2⟩
        · exact .inl rfl
        · exact .inr ⟨h1, h2⟩
theorem eachM_mem {f : Nat → Option (List OutM)} : ∀ {us : List Nat} {outs : List OutM}, eachM f us = some outs → (∀ t, t ∈ us → ∃ l, f t = some l ∧ ∀ x, x ∈ l → x ∈ outs) ∧ ∀ x, x ∈ outs → ∃ t l, t ∈ us ∧ f t = some l ∧ x ∈ l
  | [], outs, h => by cases h; exact ⟨fun t h => (by cases h), fun x h => (by cases h)⟩
  | t :: us, outs, h => by
    unfold eachM at h
    split at h
    · cases h
    · rename_i l hl
      split at h
      · cases h
      · rename_i l' hl'
        cases h
        obtain ⟨h1, h2⟩ := eachM_mem hl'
        refine ⟨fun s hs => ?_, fun x hx => ?_⟩
        · cases hs with
          | head => exact ⟨l, hl, fun x hx => List.mem_append.2 (.inl hx)⟩
          | tail _ hs =>
            obtain ⟨m, h3, h4⟩ := h1 s hs
            exact ⟨m, h3, fun x hx => List.mem_append.2 (.inr (h4 x hx))⟩
        · rcases List.mem_append.1 hx with hx | hx
          · exact ⟨t, l, List.mem_cons_self .., hl, hx⟩
          · obtain ⟨s, m, h3, h4, h5⟩ := h2 x hx
            exact ⟨s, m, List.mem_cons_of_mem _ h3, h4, h5⟩
theorem addW_mem {mid : Nat} {w : List Nat} : ∀ {l : List OutM} {m : Nat} {st : St} {w' : List Nat}, (m, st, w') ∈ addW mid w l ↔ ∃ m0 w0, (m0, st, w0) ∈ l ∧ m = mid ∧ w' = w ++ w0
  | [], m, st, w' => by simp [addW]
  | (m1, st1, w1) :: l, m, st, w' => by
    show (m, st, w') ∈ (mid, st1, w ++ w1) :: addW mid w l ↔ _
    rw [List.mem_cons, addW_mem (l := l)]
    constructor
    · rintro (h | ⟨m0, w0, h1, h2⟩)
      · cases h; exact ⟨m1, w1, List.mem_cons_self .., rfl, rfl⟩
      · exact ⟨m0, w0, List.mem_cons_of_mem _ h1, h2⟩
    · rintro ⟨m0, w0, h1, h2, h3⟩
      cases h1 with
      | head => exact .inl (by rw [h2, h3])
      | tail _ h1 => exact .inr ⟨m0, w0, h1, h2, h3⟩
section
variable {V : Ev} {cl : Cl} {C : Cx} {P : Program} {nt fl : Nat}
theorem iterAt_some {st : St} {i : Nat} {a : IA} (h : iterAt st i = some a) : st.tm.get i = some (.pointer (some ⟨a.l, 0, none⟩)) ∧ st.H.get a.l = some (.it (some a.m) a.ts a.seen) ∧ st.H.get a.m = some (.m a.es) ∧ a.l < st.nx ∧ (∀ t, t ∈ stampsL a.es → t ∈ a.ts) ∧ ∀ t, t ∈ a.seen → t ∈ stampsL a.es := by
  unfold iterAt at h
  split at h
  · rename_i l h1
    split at h
    · rename_i m ts seen h2
      split at h
      · rename_i es h3
        split at h
        · rename_i h4
          cases h
          simp only [Bool.and_eq_true, nblt, decide_eq_true_eq] at h4
          exact ⟨h1, h2, h3, h4.1, subL_spec h4.2.1, subL_spec h4.2.2⟩
        · cases h
      · cases h
    · cases h
  · cases h
theorem roundM_some {p : LP} {a : IA} {t : Nat} {st st' : St} {wr : List Nat} (h : roundM cl C P nt fl p a t st = some (st', wr)) : ∃ k v tm1 tm2 st2 w2 x w3, findT t a.es = some (k, v) ∧ put2 nt st.tm p.d1 (.tuple ⟨[.bool true, k, v]⟩) p.tb (.bool true) = some tm1 ∧ putT nt tm1 (some p.d6) (.tuple ⟨[k, v]⟩) = some tm2 ∧
    evList cl C P nt p.ops.toList p.tl ⟨tm2, Tr.set D st.H a.l (some (.it (some a.m) (stampsL a.es) (a.seen ++ [t]))), st.nx⟩ = some (st2, w2) ∧ evC cl C P nt fl p.rest st2 = some (x, st', w3) ∧ (x = .normal ∨ x = .exit p.id1) ∧ wr = [a.l] ++ (w2 ++ w3) := by
  unfold roundM at h
  split at h
  · cases h
  · rename_i k v h1
    split at h
    · cases h
    · rename_i tm1 h2
      split at h
      · cases h
      · rename_i tm2 h3
        split at h
        · cases h
        · rename_i st2 w2 h4
          split at h
          · rename_i h5; cases h
            exact ⟨k, v, tm1, tm2, st2, w2, _, _, h1, h2, h3, h4, h5, .inl rfl, rfl⟩
          · rename_i j st3 w3 h5
            split at h
            · rename_i hj; cases h
              exact ⟨k, v, tm1, tm2, st2, w2, _, _, h1, h2, h3, h4, h5, .inr (by rw [Nat.eq_of_beq_eq_true hj]), rfl⟩
            · cases h
          · cases h
theorem roundM_static (hcs : ClS cl) {p : LP} {a : IA} {t : Nat} {st st' : St} {wr : List Nat} (h : roundM cl C P nt fl p a t st = some (st', wr)) : st.nx ≤ st'.nx ∧ Syn st.H st.nx st'.H st'.nx wr := by
  obtain ⟨k, v, tm1, tm2, st2, w2, x, w3, h1, h2, h3, h4, h5, h6, rfl⟩ := roundM_some h
  obtain ⟨a1, a2⟩ := evList_static hcs _ _ _ _ _ h4
  obtain ⟨b1, b2⟩ := evC_static hcs _ _ _ _ _ h5
  have s0 : Syn st.H st.nx (Tr.set D st.H a.l (some (.it (some a.m) (stampsL a.es) (a.seen ++ [t])))) st.nx [a.l] := syn_set (fun _ _ h => h) (.inl (by simp))
  exact ⟨Nat.le_trans a1 b1, s0.trans (a2.trans b2 a1 b1) (Nat.le_refl _) (Nat.le_trans a1 b1)⟩
theorem explore_s (p : LP) (n : Nat) (st : St) : exploreM cl C P nt fl p (n + 1) st = (match iterAt st p.i with
    | none => none
    | some a => match leftL a.seen (stampsL a.es) with
      | [] => match put2 nt st.tm p.d1 (.tuple ⟨[.bool false]⟩) p.tb (.bool false) with
        | none => none
        | some tm => some [(st.nx, ⟨tm, st.H, st.nx⟩, [])]
      | us => eachM (fun t => match roundM cl C P nt fl p a t st with
        | none => none
        | some (st1, w1) => match exploreM cl C P nt fl p n st1 with
          | none => none
          | some l => some (addW st1.nx w1 l)) us) := rfl
/-- Either all have been handed out, or any of those that are left may be next. -/
theorem explore_cases {p : LP} {n : Nat} {st : St} {outs : List OutM} (h : exploreM cl C P nt fl p (n + 1) st = some outs) : ∃ a, iterAt st p.i = some a ∧
    ((leftL a.seen (stampsL a.es) = [] ∧ ∃ tm, put2 nt st.tm p.d1 (.tuple ⟨[.bool false]⟩) p.tb (.bool false) = some tm ∧ outs = [(st.nx, ⟨tm, st.H, st.nx⟩, [])]) ∨
    (leftL a.seen (stampsL a.es) ≠ [] ∧ (∀ t, t ∈ leftL a.seen (stampsL a.es) → ∃ st1 w1 l, roundM cl C P nt fl p a t st = some (st1, w1) ∧ exploreM cl C P nt fl p n st1 = some l ∧ ∀ x, x ∈ addW st1.nx w1 l → x ∈ outs) ∧
      ∀ x, x ∈ outs → ∃ t st1 w1 l, t ∈ leftL a.seen (stampsL a.es) ∧ roundM cl C P nt fl p a t st = some (st1, w1) ∧ exploreM cl C P nt fl p n st1 = some l ∧ x ∈ addW st1.nx w1 l)) := by
  rw [explore_s] at h
  split at h
  · cases h
  · rename_i a ha
    refine ⟨a, ha, ?_⟩
    split at h
    · rename_i hl
      split at h
      · cases h
      · rename_i tm htm
        cases h
        exact .inl ⟨hl, tm, htm, rfl⟩
    · rename_i hl
      refine .inr ⟨hl, ?_⟩
      obtain ⟨h1, h2⟩ := eachM_mem h
      have key : ∀ {t : Nat} {l : List OutM}, (match roundM cl C P nt fl p a t st with
        | none => none
        | some (st1, w1) => match exploreM cl C P nt fl p n st1 with
          | none => none
          | some l => some (addW st1.nx w1 l)) = some l → ∃ st1 w1 l0, roundM cl C P nt fl p a t st = some (st1, w1) ∧ exploreM cl C P nt fl p n st1 = some l0 ∧ l = addW st1.nx w1 l0 := by
        intro t l hl
        split at hl
        · cases hl
        · rename_i st1 w1 hr
          split at hl
          · cases hl
          · rename_i l0 he
            cases hl
            exact ⟨st1, w1, l0, hr, he, rfl⟩
      refine ⟨fun t ht => ?_, fun x hx => ?_⟩
      · obtain ⟨l, h3, h4⟩ := h1 t ht
        obtain ⟨st1, w1, l0, h5, h6, rfl⟩ := key h3
        exact ⟨st1, w1, l0, h5, h6, h4⟩
      · obtain ⟨t, l, h3, h4, h5⟩ := h2 x hx
        obtain ⟨st1, w1, l0, h6, h7, rfl⟩ := key h4
        exact ⟨t, st1, w1, l0, h3, h6, h7, h5⟩
theorem explore_static (hcs : ClS cl) {p : LP} : ∀ (n : Nat) (st : St) (outs : List OutM), exploreM cl C P nt fl p n st = some outs → ∀ m st' wr, (m, st', wr) ∈ outs → st.nx ≤ m ∧ m ≤ st'.nx ∧ Syn st.H st.nx st'.H st'.nx wr
  | 0, st, outs, h => by cases h
  | n + 1, st, outs, h => by
    intro m st' wr hm
    obtain ⟨a, ha, ⟨_, tm, htm, rfl⟩ | ⟨_, _, h2⟩⟩ := explore_cases h
    · simp at hm
      obtain ⟨rfl, rfl, rfl⟩ := hm
      exact ⟨Nat.le_refl _, Nat.le_refl _, Syn.refl _ _ _ _⟩
    · obtain ⟨t, st1, w1, l, h3, h4, h5, h6⟩ := h2 _ hm
      obtain ⟨m0, w0, h7, rfl, rfl⟩ := addW_mem.1 h6
      obtain ⟨a1, a2⟩ := roundM_static hcs h4
      obtain ⟨b1, b2, b3⟩ := explore_static hcs n st1 l h5 _ _ _ h7
      exact ⟨a1, Nat.le_trans b1 b2, a2.trans b3 a1 (Nat.le_trans b1 b2)⟩
end
end Go.Proofs.YtigjjddblijpbaaGreatDoor.Ex
