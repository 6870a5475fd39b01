/-
  A walker by reckoning: maps.
-/
/-
  A walker by reckoning: slices; any operation.
-/
import Derived.Test.YtigjjddblijpbaaGreatDoorZ3
namespace Go.Proofs.YtigjjddblijpbaaGreatDoor.Ex
open Go
set_option linter.unusedSimpArgs false
set_option linter.unusedVariables false

section
variable {V : Ev} {P : Program} {C : Cx} {E : Lb} {H : Hp} {nx : Nat} {w : World} {Y : Sy}
/-- A row of entries, the value behind one stamp another one. -/
def mset (b : Nat) (v : Value) (es : List MapEntry) : List MapEntry := es.map fun e => if e.born = b then { e with val := v } else e
theorem modify_mset : ∀ (es : List MapEntry) (i : Nat) (e0 : MapEntry) (v : Value) (k : Value), es.Pairwise (fun a b => a.born ≠ b.born) → es[i]? = some e0 → k = e0.key →
    es.modify i (fun e => { e with key := k, val := v }) = mset e0.born v es
  | [], i, e0, v, k, _, h, _ => by simp at h
  | e :: es, 0, e0, v, k, hp, h, hk => by
    simp at h; subst h; subst hk
    have h1 := List.pairwise_cons.1 hp
    simp only [List.modify_zero_cons, mset, List.map_cons, if_true]
    congr 1
    symm
    rw [List.map_congr_left (g := id) (fun x hx => by rw [if_neg (fun h => h1.1 x hx h.symm)]; rfl)]
    simp
  | e :: es, i + 1, e0, v, k, hp, h, hk => by
    simp at h
    have h1 := List.pairwise_cons.1 hp
    have hne : ¬ e.born = e0.born := h1.1 e0 (List.mem_of_getElem? h)
    simp only [List.modify_succ_cons, mset, List.map_cons, if_neg hne]
    congr 1
    exact modify_mset es i e0 v k h1.2 h hk
theorem modify_mset' : ∀ (es : List MapEntry) (i : Nat) (e0 : MapEntry) (v : Value), es.Pairwise (fun a b => a.born ≠ b.born) → es[i]? = some e0 →
    es.modify i (fun e => { e with val := v }) = mset e0.born v es
  | [], i, e0, v, _, h => by simp at h
  | e :: es, 0, e0, v, hp, h => by
    simp at h; subst h
    have h1 := List.pairwise_cons.1 hp
    simp only [List.modify_zero_cons, mset, List.map_cons, if_true]
    congr 1
    symm
    rw [List.map_congr_left (g := id) (fun x hx => by rw [if_neg (fun h => h1.1 x hx h.symm)]; rfl)]
    simp
  | e :: es, i + 1, e0, v, hp, h => by
    simp at h
    have h1 := List.pairwise_cons.1 hp
    have hne : ¬ e.born = e0.born := h1.1 e0 (List.mem_of_getElem? h)
    simp only [List.modify_succ_cons, mset, List.map_cons, if_neg hne]
    congr 1
    exact modify_mset' es i e0 v h1.2 h
theorem modify_same : ∀ (es : List MapEntry) (i : Nat) (e0 : MapEntry) (k : Value), es[i]? = some e0 → k = e0.key → es.modify i (fun e => { e with key := k }) = es
  | [], i, e0, k, h, _ => by simp at h
  | e :: es, 0, e0, k, h, hk => by simp at h; subst h; subst hk; simp
  | e :: es, i + 1, e0, k, h, hk => by
    simp at h
    simp only [List.modify_succ_cons]
    congr 1
    exact modify_same es i e0 k h hk
theorem putS_conc {t b : Nat} {v v' : Value} {q : Nat} (ht : E t = some (q, b)) (hv : conc Y E v = some v') : ∀ {es : List (Value × Value × Nat)} {ces : List MapEntry}, concM Y E es = some ces →
    (∀ e, e ∈ es → ∀ p, E e.2.2 = some p → p.2 = b → e.2.2 = t) → concM Y E (putS t v es) = some (mset b v' ces)
  | [], ces, h, _ => by cases h; rfl
  | (k, u, t') :: es, ces, h, hu => by
    obtain ⟨k', u', p, ces', h1, h2, h3, h4, rfl⟩ := concM_cons h
    have ih := putS_conc ht hv h4 (fun e he => hu e (List.mem_cons_of_mem _ he))
    unfold putS
    rw [nbeq]
    by_cases e : t = t'
    · subst e
      rw [ht] at h3; cases h3
      simp only [decide_true, mset, List.map_cons, if_true]
      exact concM_cons' h1 hv ht ih
    · have hne : ¬ p.2 = b := fun hb => e (hu _ (List.mem_cons_self ..) p h3 hb).symm
      simp only [decide_eq_false e, mset, List.map_cons, if_neg hne]
      exact concM_cons' h1 h2 h3 ih
/-- Names of stamps that stand for the same stamp are the same. -/
theorem stamps_inj : ∀ {es : List (Value × Value × Nat)} {ces : List MapEntry}, concM Y E es = some ces → ces.Pairwise (fun a b => a.born ≠ b.born) →
    ∀ e e', e ∈ es → e' ∈ es → ∀ p p', E e.2.2 = some p → E e'.2.2 = some p' → p.2 = p'.2 → e.2.2 = e'.2.2
  | [], _, _, _, _, _, he, _ => by cases he
  | (k, u, t) :: es, ces, h, hp, e, e', he, he' => by
    obtain ⟨k', u', q, ces', h1, h2, h3, h4, rfl⟩ := concM_cons h
    have h5 := List.pairwise_cons.1 hp
    have mem : ∀ {es : List (Value × Value × Nat)} {ces : List MapEntry}, concM Y E es = some ces → ∀ e, e ∈ es → ∀ p, E e.2.2 = some p → ∃ m, m ∈ ces ∧ m.born = p.2 := by
      intro es
      induction es with
      | nil => intro ces _ e he; cases he
      | cons x es ih =>
        intro ces h e he p hp
        obtain ⟨k, u, t⟩ := x
        obtain ⟨k', u', q, ces', h1, h2, h3, h4, rfl⟩ := concM_cons h
        cases he with
        | head => rw [h3] at hp; cases hp; exact ⟨_, List.mem_cons_self .., rfl⟩
        | tail _ he =>
          obtain ⟨m, hm, hb⟩ := ih h4 e he p hp
          exact ⟨m, List.mem_cons_of_mem _ hm, hb⟩
    cases he with
    | head =>
      cases he' with
      | head => intro _ _ _ _ _; rfl
      | tail _ he' =>
        intro p p' hp1 hp2 hb
        rw [h3] at hp1; cases hp1
        obtain ⟨m, hm, hmb⟩ := mem h4 e' he' p' hp2
        exact absurd (hb.trans hmb.symm) (h5.1 m hm)
    | tail _ he =>
      cases he' with
      | head =>
        intro p p' hp1 hp2 hb
        rw [h3] at hp2; cases hp2
        obtain ⟨m, hm, hmb⟩ := mem h4 e he p hp1
        exact absurd (hb.symm.trans hmb.symm) (h5.1 m hm)
      | tail _ he' => exact stamps_inj h4 h5.2 e e' he he'
theorem mset_key (b : Nat) (v : Value) (es : List MapEntry) (R : Value → Value → Prop) (h : es.Pairwise (fun x y => R x.key y.key)) : (mset b v es).Pairwise (fun x y => R x.key y.key) := by
  unfold mset
  rw [List.pairwise_map]
  exact h.imp fun hxy => by split <;> split <;> exact hxy
theorem mset_born (b : Nat) (v : Value) (es : List MapEntry) (h : es.Pairwise (fun x y => x.born ≠ y.born)) : (mset b v es).Pairwise (fun x y => x.born ≠ y.born) := by
  unfold mset
  rw [List.pairwise_map]
  exact h.imp fun hxy => by split <;> split <;> exact hxy
theorem mset_lt (b c : Nat) (v : Value) (es : List MapEntry) (h : ∀ e ∈ es, e.born < c) : ∀ e ∈ mset b v es, e.born < c := by
  intro e he
  unfold mset at he
  obtain ⟨x, hx, rfl⟩ := List.mem_map.1 he
  have := h x hx
  split <;> exact this
/-- What is known of keys, by what was reckoned. -/
theorem findK_spec (hC : CxOK C P Y) {K : Nat} {k k' : Value} (hk : conc Y E k = some k') : ∀ {es : List (Value × Value × Nat)} {ces : List MapEntry} {r : Option (Value × Nat)}, findK C K k es = some r → concM Y E es = some ces →
    (∀ e, e ∈ ces → (∃ ki a b, k' = .int ki a ∧ e.key = .int ki b) ∨ (∃ a b c x y z a' b' c' x' y' z', C.keys.any (Nat.beq K) = true ∧ k' = .agg ⟨[.int .i64 a, .int .i64 b, .int .i64 c, .bool x, .bool y, .bool z]⟩ ∧ e.key = .agg ⟨[.int .i64 a', .int .i64 b', .int .i64 c', .bool x', .bool y', .bool z']⟩ ∧ a ≠ a')) ∧
    (match r with
      | none => ∀ e, e ∈ ces → e.key ≠ k'
      | some (v, t) => ∃ q v' kv, (kv, v, t) ∈ es ∧ E t = some q ∧ conc Y E v = some v' ∧ (⟨k', v', q.2⟩ : MapEntry) ∈ ces ∧ ∃ ki a, k' = .int ki a)
  | [], ces, r, h, hc => by
    cases hc
    have h : some none = some r := h
    cases h
    exact ⟨fun e he => (by cases he), fun e he => (by cases he)⟩
  | (k1, u, t) :: es, ces, r, h, hc => by
    obtain ⟨k1', u', q, ces', h1, h2, h3, h4, rfl⟩ := concM_cons hc
    have num : ∀ v v', num1 v = true → conc Y E v = some v' → ∃ n, v' = .int .i64 n := by
      intro v v' hv hv'
      unfold num1 at hv
      split at hv
      · cases hv'; exact ⟨_, rfl⟩
      · cases hv'; exact ⟨_, rfl⟩
      · cases hv
    have ask : ∀ l v', askOk l = true → conc Y E (.agg ⟨l⟩) = some v' → ∃ a b c x y z, v' = .agg ⟨[.int .i64 a, .int .i64 b, .int .i64 c, .bool x, .bool y, .bool z]⟩ ∧ fstI l = some a := by
      intro l v' hl hv'
      unfold askOk at hl
      split at hl
      · split at hl
        · rename_i b c x y z hb
          obtain ⟨l', hl0, rfl⟩ := conc_agg_inv hv'
          obtain ⟨a', t1, e1, hl1, rfl⟩ := concL_cons hl0
          obtain ⟨b', t2, e2, hl2, rfl⟩ := concL_cons hl1
          obtain ⟨c', t3, e3, hl3, rfl⟩ := concL_cons hl2
          obtain ⟨x', t4, e4, hl4, rfl⟩ := concL_cons hl3
          obtain ⟨y', t5, e5, hl5, rfl⟩ := concL_cons hl4
          obtain ⟨z', t6, e6, hl6, rfl⟩ := concL_cons hl5
          cases hl6
          cases e1; cases e4; cases e5; cases e6
          obtain ⟨n, rfl⟩ := num _ _ hb e2
          obtain ⟨m, rfl⟩ := num _ _ hl e3
          exact ⟨_, _, _, _, _, _, rfl, rfl⟩
        · cases hl
      · cases hl
    have key : ∀ bb, keyEq C K k k1 = some bb → ((∃ ki a b, k' = .int ki a ∧ k1' = .int ki b ∧ bb = decide (a = b)) ∨ (bb = false ∧ ∃ a b c x y z a' b' c' x' y' z', C.keys.any (Nat.beq K) = true ∧ k' = .agg ⟨[.int .i64 a, .int .i64 b, .int .i64 c, .bool x, .bool y, .bool z]⟩ ∧ k1' = .agg ⟨[.int .i64 a', .int .i64 b', .int .i64 c', .bool x', .bool y', .bool z']⟩ ∧ a ≠ a')) := by
      intro bb hb
      unfold keyEq at hb
      split at hb
      · split at hb
        · rename_i hkk
          cases hb
          obtain rfl := eqK_eq hkk
          cases hk; cases h1
          exact .inl ⟨_, _, _, rfl, rfl, eqI1_eq _ _⟩
        · cases hb
      · split at hb
        · rename_i a a' hg e1 e2
          simp only [Bool.and_eq_true] at hg
          obtain ⟨a1, b1, c1, x1, y1, z1, rfl, f1⟩ := ask _ _ hg.2.1 hk
          obtain ⟨a2, b2, c2, x2, y2, z2, rfl, f2⟩ := ask _ _ hg.2.2 h1
          rw [f1] at e1; cases e1
          rw [f2] at e2; cases e2
          split at hb
          · cases hb
          · rename_i hne
            cases hb
            rw [eqI1_eq] at hne
            exact .inr ⟨rfl, _, _, _, _, _, _, _, _, _, _, _, _, hg.1, rfl, rfl, of_decide_eq_false hne⟩
        · cases hb
      · cases hb
    unfold findK at h
    split at h
    · cases h
    · rename_i hke
      have hk1 := key true hke
      split at h
      · rename_i hrest
        cases h
        obtain ⟨g1, g2⟩ := findK_spec hC hk hrest h4
        rcases hk1 with ⟨ki, a, b, rfl, rfl, hb⟩ | ⟨hb, _⟩
        · obtain rfl : a = b := of_decide_eq_true hb.symm
          refine ⟨fun e he => ?_, ?_⟩
          · cases he with
            | head => exact .inl ⟨_, _, _, rfl, rfl⟩
            | tail _ he => exact g1 e he
          · exact ⟨q, u', k1, List.mem_cons_self .., h3, h2, List.mem_cons_self .., _, _, rfl⟩
        · cases hb
      · cases h
    · rename_i hke
      have hk1 := key false hke
      obtain ⟨g1, g2⟩ := findK_spec hC hk h h4
      refine ⟨fun e he => ?_, ?_⟩
      · cases he with
        | head =>
          rcases hk1 with ⟨ki, a, b, e1, e2, hb⟩ | ⟨_, hx⟩
          · exact .inl ⟨_, _, _, e1, e2⟩
          · exact .inr hx
        | tail _ he => exact g1 e he
      · cases r with
        | none =>
          intro e he
          cases he with
          | head =>
            intro hkk
            rcases hk1 with ⟨ki, a, b, e1, e2, hb⟩ | ⟨_, a, b, c, x, y, z, a', b', c', x', y', z', _, e1, e2, hne⟩
            · simp only at hkk
              rw [e1, e2] at hkk
              injection hkk with _ hkk
              exact of_decide_eq_false hb.symm hkk.symm
            · simp only at hkk
              rw [e1, e2] at hkk
              simp at hkk
              exact hne hkk.1.symm
          | tail _ he => exact g2 e he
        | some vt =>
          obtain ⟨v, t'⟩ := vt
          obtain ⟨q', v', kv, m1, m2, m3, m4, m5⟩ := g2
          exact ⟨q', v', kv, List.mem_cons_of_mem _ m1, m2, m3, List.mem_cons_of_mem _ m4, m5⟩
theorem findNow_int {kd ki : IntKind} {a : Int} : ∀ (es : List MapEntry) (i : Nat), (∀ e, e ∈ es → ∃ b, e.key = .int ki b) →
    ((∀ e, e ∈ es → e.key ≠ .int ki a) → Instr.findNow (.int kd) (.int ki a) es i = some none) ∧
    ((∃ e, e ∈ es ∧ e.key = .int ki a) → ∃ idx e0, es[idx]? = some e0 ∧ e0.key = .int ki a ∧ Instr.findNow (.int kd) (.int ki a) es i = some (some (i + idx, e0.val)))
  | [], i, _ => ⟨fun _ => rfl, fun ⟨e, he, _⟩ => by cases he⟩
  | e :: es, i, h => by
    obtain ⟨b, hb⟩ := h e (List.mem_cons_self ..)
    obtain ⟨ih1, ih2⟩ := findNow_int (kd := kd) (a := a) es (i + 1) (fun e he => h e (List.mem_cons_of_mem _ he))
    unfold Instr.findNow
    by_cases hab : a = b
    · subst hab
      refine ⟨fun hn => absurd hb (hn e (List.mem_cons_self ..)), fun _ => ⟨0, e, rfl, hb, ?_⟩⟩
      simp [Instr.sameNow, hb]
    · have hs : Instr.sameNow (.int kd) (.int ki a) e.key = some false := by simp [Instr.sameNow, hb, hab]
      rw [hs]
      refine ⟨fun hn => ih1 (fun e he => hn e (List.mem_cons_of_mem _ he)), fun ⟨e', he', hk⟩ => ?_⟩
      cases he' with
      | head => rw [hb] at hk; injection hk with _ hk; exact absurd hk.symm hab
      | tail _ he' =>
        obtain ⟨idx, e0, g1, g2, g3⟩ := ih2 ⟨e', he', hk⟩
        exact ⟨idx + 1, e0, by simpa using g1, g2, by simp only; rw [g3]; congr 3; omega⟩
theorem key_unique {l : List MapEntry} (hp : l.Pairwise (fun a b => a.key ≠ b.key)) {x y : MapEntry} (hx : x ∈ l) (hy : y ∈ l) (h : x.key = y.key) : x = y := by
  induction l with
  | nil => cases hx
  | cons a l ih =>
    have h1 := List.pairwise_cons.1 hp
    cases hx with
    | head =>
      cases hy with
      | head => rfl
      | tail _ hy => exact absurd h (h1.1 y hy)
    | tail _ hx =>
      cases hy with
      | head => exact absurd h.symm (h1.1 x hx)
      | tail _ hy => exact ih h1.2 hx hy
theorem asking_no {K : Nat} {k' : Value} (w : World) : ∀ (es : List MapEntry) (i : Nat), (∀ e, e ∈ es → (Op.equal K k' e.key).run P w = .ok false w) → (Instr.findAsking K k' es i).run P w = .ok none w
  | [], i, _ => rfl
  | e :: es, i, h => by
    unfold Instr.findAsking
    simp only [Sem.run_bind, h e (List.mem_cons_self ..), Result.andThen_ok, Bool.false_eq_true, if_false]
    exact asking_no w es (i + 1) (fun e he => h e (List.mem_cons_of_mem _ he))
theorem findKey_run (hC : CxOK C P Y) {K : Nat} {k k' : Value} (hok : keyOk P C K k = true) (hk : conc Y E k = some k') {es : List (Value × Value × Nat)} {ces es' : List MapEntry} {r : Option (Value × Nat)} (h : findK C K k es = some r) (hc : concM Y E es = some ces)
    (hp : es'.Perm ces) (hd : ces.Pairwise (fun a b => a.key ≠ b.key)) (w : World) :
    (∀ emp, (Instr.checkKey emp 10000 K k').run P w = .ok () w) ∧
    (match r with
      | none => (Instr.findKey K k' es').run P w = .ok none w ∧ ∀ e, e ∈ ces → e.key ≠ k'
      | some (v, t) => ∃ q v' kv idx e0, (kv, v, t) ∈ es ∧ E t = some q ∧ conc Y E v = some v' ∧ es'[idx]? = some e0 ∧ e0.key = k' ∧ e0.val = v' ∧ e0.born = q.2 ∧ (Instr.findKey K k' es').run P w = .ok (some (idx, v')) w ∧ ∃ ki a, k' = .int ki a) := by
  obtain ⟨g1, g2⟩ := findK_spec hC hk h hc
  unfold keyOk at hok
  split at hok
  · rename_i ki a
    split at hok
    · rename_i kd hu
      cases hk
      have hall : ∀ e, e ∈ es' → ∃ b, e.key = .int ki b := by
        intro e he
        rcases g1 e (hp.mem_iff.1 he) with ⟨ki', a', b', e1, e2⟩ | ⟨_, _, _, _, _, _, _, _, _, _, _, _, _, e1, _⟩
        · injection e1 with e1 _; subst e1; exact ⟨b', e2⟩
        · cases e1
      obtain ⟨f1, f2⟩ := findNow_int (kd := kd) (a := a) es' 0 hall
      refine ⟨fun emp => ?_, ?_⟩
      · unfold Instr.checkKey
        simp only [Sem.run_bind, run_underlying hu, Result.andThen_ok]
        rfl
      · cases r with
        | none =>
          refine ⟨?_, g2⟩
          simp only [Instr.findKey, Sem.run_bind, run_underlying hu, Result.andThen_ok, f1 (fun e he => g2 e (hp.mem_iff.1 he)), Sem.run_pure]
        | some vt =>
          obtain ⟨v, t⟩ := vt
          obtain ⟨q, v', kv, m1, m2, m3, m4, m5⟩ := g2
          obtain ⟨idx, e0, n1, n2, n3⟩ := f2 ⟨_, hp.mem_iff.2 m4, rfl⟩
          have he0 := key_unique hd (hp.mem_iff.1 (List.mem_of_getElem? n1)) m4 n2
          subst he0
          refine ⟨q, v', kv, idx, _, m1, m2, m3, n1, rfl, rfl, rfl, ?_, m5⟩
          simp only [Instr.findKey, Sem.run_bind, run_underlying hu, Result.andThen_ok, n3, Sem.run_pure, Nat.zero_add]
    · cases hok
  · rename_i l
    simp only [Bool.and_eq_true] at hok
    obtain ⟨⟨fs, hu⟩, hck, heq⟩ := hC.keys K hok.1
    have num : ∀ v v', num1 v = true → conc Y E v = some v' → ∃ n, v' = .int .i64 n := by
      intro v v' hv hv'
      unfold num1 at hv
      split at hv
      · cases hv'; exact ⟨_, rfl⟩
      · cases hv'; exact ⟨_, rfl⟩
      · cases hv
    have ask : ∃ a b c x y z, k' = .agg ⟨[.int .i64 a, .int .i64 b, .int .i64 c, .bool x, .bool y, .bool z]⟩ := by
      have hl := hok.2
      unfold askOk at hl
      split at hl
      · split at hl
        · rename_i b c x y z hb
          obtain ⟨l', hl0, rfl⟩ := conc_agg_inv hk
          obtain ⟨a', t1, e1, hl1, rfl⟩ := concL_cons hl0
          obtain ⟨b', t2, e2, hl2, rfl⟩ := concL_cons hl1
          obtain ⟨c', t3, e3, hl3, rfl⟩ := concL_cons hl2
          obtain ⟨x', t4, e4, hl4, rfl⟩ := concL_cons hl3
          obtain ⟨y', t5, e5, hl5, rfl⟩ := concL_cons hl4
          obtain ⟨z', t6, e6, hl6, rfl⟩ := concL_cons hl5
          cases hl6
          cases e1; cases e4; cases e5; cases e6
          obtain ⟨n, rfl⟩ := num _ _ hb e2
          obtain ⟨m, rfl⟩ := num _ _ hl e3
          exact ⟨_, _, _, _, _, _, rfl⟩
        · cases hl
      · cases hl
    obtain ⟨a, b, c, x, y, z, rfl⟩ := ask
    refine ⟨fun emp => hck emp w a b c x y z, ?_⟩
    cases r with
    | none =>
      refine ⟨?_, g2⟩
      have hno : (Instr.findAsking K (.agg ⟨[.int .i64 a, .int .i64 b, .int .i64 c, .bool x, .bool y, .bool z]⟩) es' 0).run P w = .ok none w := by
        refine asking_no w es' 0 (fun e he => ?_)
        rcases g1 e (hp.mem_iff.1 he) with ⟨ki', a', b', e1, e2⟩ | ⟨a1, b1, c1, x1, y1, z1, a2, b2, c2, x2, y2, z2, _, e1, e2, hne⟩
        · cases e1
        · rw [e2]
          simp only [Value.agg.injEq, Array.mk.injEq, List.cons.injEq, Value.int.injEq, true_and, Value.bool.injEq, and_true] at e1
          exact heq w _ _ _ _ _ _ _ _ _ _ _ _ (by rw [e1.1]; exact hne)
      simp only [Instr.findKey, Sem.run_bind, run_underlying hu, Result.andThen_ok]
      cases es' with
      | nil => rfl
      | cons e es' => simp only [Instr.findNow, Instr.sameNow]; exact hno
    | some vt =>
      obtain ⟨v, t⟩ := vt
      obtain ⟨q, v', kv, m1, m2, m3, m4, ki, a', m5⟩ := g2
      cases m5
  · cases hok
variable {ρ : Operand → Option Value} {ρ' : Operand → Value} {o : Oper} {r : R}
theorem run_getMap {b : Nat} {es : List MapEntry} {c : Nat} (h : w.heap[b]? = some (.map ⟨es⟩ c)) : (getObj b).run P w = .ok (.map ⟨es⟩ c) w := by
  show Sem.run P (.getObj b .pure) w = _
  unfold Sem.run
  rw [h]
  rfl
theorem run_setMap {b : Nat} {es : List MapEntry} {c : Nat} (h : w.heap[b]? = some (.map ⟨es⟩ c)) (ob : Obj) : (setObj b ob).run P w = .ok () { w with heap := w.heap.setIfInBounds b ob } := by
  show Sem.run P (.setObj b ob (.pure ())) w = _
  unfold Sem.run
  rw [h]
  rfl
theorem set_at {b : Nat} {ob ob' : Obj} (h : w.heap[b]? = some ob') : ({ w with heap := w.heap.setIfInBounds b ob } : World).heap[b]? = some ob := by
  have := (Array.getElem?_eq_some_iff.1 h).1
  simp [this]
theorem set_off {b k : Nat} {ob : Obj} (h : k ≠ b) : ({ w with heap := w.heap.setIfInBounds b ob } : World).heap[k]? = w.heap[k]? := by
  simp [Array.getElem?_setIfInBounds_ne (Ne.symm h)]
theorem okV_conc {ok b : Bool} {v v' : Value} (h : conc Y E v = some v') : conc Y E (okV ok v b) = some (if ok then .tuple #[v', .bool b] else v') := by
  cases ok
  · exact h
  · exact conc_tuple (concL_cons' h (concL_one rfl))
theorem lookup_run (hC : CxOK C P Y) {T K e : Nat} {k x' k' v : Value} {ok : Bool} (hu : P.underlying T = some (.map K e)) (hok : keyOk P C K k = true) (hk : conc Y E k = some k')
    {es : List (Value × Value × Nat)} {ces es' : List MapEntry} {fr : Option (Value × Nat)} (hf : findK C K k es = some fr) (hc : concM Y E es = some ces) (hp : es'.Perm ces) (hd : ces.Pairwise (fun a b => a.key ≠ b.key))
    (hget : (x' = .map none ∧ es' = []) ∨ ∃ b c, x' = .map (some b) ∧ w.heap[b]? = some (.map ⟨es'⟩ c)) (hv : lookupR P e ok fr = some v) : ∃ v', conc Y E v = some v' ∧ (Instr.lookup T x' k' ok).run P w = .ok v' w := by
  obtain ⟨hck, hfk⟩ := findKey_run hC hok hk hf hc hp hd w
  cases fr with
  | none =>
    simp only [lookupR] at hv
    split at hv
    · cases hv
    · rename_i i hi
      split at hv
      · cases hv
      · rename_i z hz
        split at hv
        · cases hv
        · rename_i hl
          cases hv
          refine ⟨_, okV_conc (lit_conc hl), ?_⟩
          unfold Instr.lookup
          rcases hget with ⟨hx0, rfl⟩ | ⟨b, c, hx0, hb⟩
          · simp only [Sem.run_bind, run_underlying hu, Result.andThen_ok, hx0, Sem.run_pure, hck, hfk.1, run_zero1 hi hz]
          · simp only [Sem.run_bind, run_underlying hu, Result.andThen_ok, hx0, run_getMap hb, Sem.run_pure, hck, hfk.1, run_zero1 hi hz]
  | some vt =>
    obtain ⟨u, t⟩ := vt
    obtain ⟨q, v', kv', idx, e0, m1, m2, m3, m4, m5, m6, m7, m8, m9⟩ := hfk
    cases hv
    refine ⟨_, okV_conc m3, ?_⟩
    unfold Instr.lookup
    rcases hget with ⟨hx0, rfl⟩ | ⟨b, c, hx0, hb⟩
    · simp at m4
    · simp only [Sem.run_bind, run_underlying hu, Result.andThen_ok, hx0, run_getMap hb, Sem.run_pure, hck, m8]
theorem opLookup_ok {T : Nat} {x k : Operand} {ok : Bool} (hC : CxOK C P V.Y) (hH : HR V E H w) (ho : o.op = .lookup T x k ok) (hr : ∀ x, x ∈ o.op.operands → ∀ v, ρ x = some v → conc V.Y E v = some (ρ' x)) (h : opLookup C P ρ H T x k ok = some r) : OpOK V P ρ' o E H nx w r := by
  have h1 := hr x (by simp [ho, Op.operands])
  have h2 := hr k (by simp [ho, Op.operands])
  unfold opLookup at h
  split at h
  · rename_i m kv hm hkv
    split at h
    · rename_i v hv
      cases h
      have hm := h1 _ hm
      have hkv := h2 _ hkv
      unfold lookupV at hv
      split at hv
      · rename_i K e hu
        split at hv
        · cases hv
        · rename_i hok
          split at hv
          · cases hv
          · rename_i fr hfr
            have key : ∃ v', conc V.Y E v = some v' ∧ (Instr.lookup T (ρ' x) (ρ' k) ok).run P w = .ok v' w := by
              unfold findM at hfr
              split at hfr
              · cases hfr
                exact lookup_run hC hu hok hkv (es := []) (ces := []) (es' := []) rfl rfl (List.Perm.refl _) List.Pairwise.nil (.inl ⟨(Option.some.inj hm).symm, rfl⟩) hv
              · rename_i l
                split at hfr
                · rename_i es hg
                  obtain ⟨p, hp, es', ces, c, hb, hc, hpm, hd, _⟩ := hH.has _ _ hg
                  obtain ⟨q, hq, hme⟩ := conc_map_inv hm
                  rw [hp] at hq; cases hq
                  exact lookup_run hC hu hok hkv hfr hc hpm hd (.inr ⟨_, _, hme, hb⟩) hv
                · cases hfr
              · cases hfr
            obtain ⟨v', h3, h4⟩ := key
            exact ⟨v', h3, by simp only [execOp, ho, Sem.run_bind, h4, Result.andThen_ok, Sem.run_pure]⟩
      · cases hv
    · cases h
  · cases h
/-- A name for a stamp. -/
theorem Step.stamp (h : HR V E H w) (hn : E nx = none) (st : Nat) : Step V E H nx w (upd E nx (w.heap.size, st)) H (nx + 1) [] w := by
  have hx := upd_ext (w.heap.size, st) hn
  have ne : ∀ l o, H.get l = some o → l ≠ nx := fun l o hl e => by subst e; exact get_none h hn o hl
  refine ⟨hx, fun l hl => upd_ne E _ (by omega), (by omega), ⟨fun l o hl => ?_, fun l l' o1 o2 p p' h1 h2 h3 h4 h5 => ?_, fun l o p h1 h2 => ?_, h.sz, h.k⟩, fun l hl => (by cases hl), fun b hb _ => rfl, fun l p h1 h2 h3 => ?_, fun l o hl _ hb => hl, rfl, rfl, rfl, Nat.le_refl _⟩
  · obtain ⟨p, h1, h2⟩ := h.has l o hl
    exact ⟨p, by rw [upd_ne E _ (ne l o hl)]; exact h1, h2.ext hx⟩
  · rw [upd_ne E _ (ne l o1 h1)] at h3
    rw [upd_ne E _ (ne l' o2 h2)] at h4
    exact h.inj l l' o1 o2 p p' h1 h2 h3 h4 h5
  · rw [upd_ne E _ (ne l o h1)] at h2
    exact h.low l o p h1 h2
  · obtain rfl : l = nx := by omega
    rw [upd_self] at h3; cases h3
    exact .inl (Nat.le_refl _)
theorem bornP {es ces : List MapEntry} (hp : es.Perm ces) (h : ces.Pairwise (fun a b => a.born ≠ b.born)) : es.Pairwise (fun a b => a.born ≠ b.born) :=
  (hp.pairwise_iff (fun h => Ne.symm h)).2 h
/-- A map with one value turned. -/
theorem step_mset (hH : HR V E H w) {l t : Nat} {p q : Nat × Nat} {es : List (Value × Value × Nat)} {v v' kv u : Value} (hln : l < nx) (hg : H.get l = some (.m es)) (hp : E l = some p) {es' ces : List MapEntry} {c : Nat}
    (hb : w.heap[p.1]? = some (.map ⟨es'⟩ c)) (hc : concM V.Y E es = some ces) (hpm : es'.Perm ces) (hd : ces.Pairwise (fun a b => a.key ≠ b.key)) (hbn : ces.Pairwise (fun a b => a.born ≠ b.born)) (hlt : ∀ e ∈ ces, e.born < c)
    (hm : (kv, u, t) ∈ es) (ht : E t = some q) (hv : conc V.Y E v = some v') :
    Step V E H nx w E (Tr.set D H l (some (.m (putS t v es)))) nx [l] { w with heap := w.heap.setIfInBounds p.1 (.map ⟨mset q.2 v' es'⟩ c) } := by
  refine Step.write hH hln hg hp rfl rfl rfl (by simp) (fun b hne => set_off hne) ⟨_, _, c, set_at hb, putS_conc (q := q.1) ht hv hc (fun e he p' hp' hb' => ?_), hpm.map _, mset_key _ _ _ (fun a b => a ≠ b) hd, mset_born _ _ _ hbn, mset_lt _ _ _ _ hlt⟩
  exact stamps_inj hc hbn e (kv, u, t) he hm p' q hp' ht hb'
/-- A map with one more entry. -/
theorem step_mnew (hH : HR V E H w) {l : Nat} {p : Nat × Nat} {es : List (Value × Value × Nat)} {k v k' v' : Value} (hn : E nx = none) (hln : l < nx) (hg : H.get l = some (.m es)) (hp : E l = some p) {es' ces : List MapEntry} {c : Nat}
    (hb : w.heap[p.1]? = some (.map ⟨es'⟩ c)) (hc : concM V.Y E es = some ces) (hpm : es'.Perm ces) (hd : ces.Pairwise (fun a b => a.key ≠ b.key)) (hbn : ces.Pairwise (fun a b => a.born ≠ b.born)) (hlt : ∀ e ∈ ces, e.born < c)
    (hk : conc V.Y E k = some k') (hv : conc V.Y E v = some v') (hne : ∀ e ∈ ces, e.key ≠ k') :
    Step V E H nx w (upd E nx (w.heap.size, c)) (Tr.set D H l (some (.m ((k, v, nx) :: es)))) (nx + 1) [l] { w with heap := w.heap.setIfInBounds p.1 (.map ⟨es' ++ [⟨k', v', c⟩]⟩ (c + 1)) } := by
  have h1 := Step.stamp (V := V) hH hn c
  have hx := h1.ext
  refine Step.trans (r1 := []) h1 (Step.write h1.hr (by omega) hg (hx _ _ hp) rfl rfl rfl (by simp) (fun b hne => set_off hne) ⟨_, _, c + 1, set_at hb, concM_cons' (conc_ext hx _ _ hk) (conc_ext hx _ _ hv) (upd_self _ _ _) (concM_ext hx hc), ?_, ?_, ?_, ?_⟩)
  · exact (List.perm_append_comm (l₁ := es') (l₂ := [⟨k', v', c⟩])).trans (hpm.cons _)
  · exact List.pairwise_cons.2 ⟨fun e he h => hne e he h.symm, hd⟩
  · exact List.pairwise_cons.2 ⟨fun e he h => by have := hlt e he; simp only at h; omega, hbn⟩
  · intro e he
    cases he with
    | head => simp
    | tail _ he => have := hlt e he; omega
theorem sameBits_int (ki : IntKind) (a : Int) : Instr.sameBits 10000 (.int ki a) (.int ki a) = true := by
  unfold Instr.sameBits
  simp
theorem keyStays (ki : IntKind) (a : Int) (w : World) : (Instr.keyThatStays (.int ki a) (.int ki a)).run P w = .ok (.int ki a) w := by
  unfold Instr.keyThatStays
  rw [sameBits_int]
  rfl
theorem update_ok {T : Nat} {x k u : Operand} (hC : CxOK C P V.Y) (hH : HR V E H w) (ho : o.op = .mapUpdate T x k u ∨ o.op = .insert T x k u) (hr : ∀ x, x ∈ o.op.operands → ∀ v, ρ x = some v → conc V.Y E v = some (ρ' x)) (h : opMapUpdate C P ρ H nx T x k u = some r) : OpOK V P ρ' o E H nx w r := by
  have h1 := hr x (by rcases ho with ho | ho <;> simp [ho, Op.operands])
  have h2 := hr k (by rcases ho with ho | ho <;> simp [ho, Op.operands])
  have h3 := hr u (by rcases ho with ho | ho <;> simp [ho, Op.operands])
  have hex : (execOp ρ' o) = (do Instr.mapUpdate T (ρ' x) (ρ' k) (ρ' u); pure .skip) := by
    rcases ho with ho | ho <;> simp only [execOp, ho]
  unfold opMapUpdate at h
  split at h
  · rename_i m kv vv hm hkv hvv
    have hm := h1 _ hm
    have hkv := h2 _ hkv
    have hvv := h3 _ hvv
    unfold updateV at h
    split at h
    · rename_i K e hu
      split at h
      · cases h
      · rename_i hok
        split at h
        · rename_i l
          split at h
          · rename_i es hbl hg
            rw [nblt] at hbl
            have hln := of_decide_eq_true hbl
            obtain ⟨p, hp, es', ces, c, hb, hc, hpm, hd, hbn, hlt⟩ := hH.has _ _ hg
            obtain ⟨q, hq, hme⟩ := conc_map_inv hm
            rw [hp] at hq; cases hq
            split at h
            · cases h
            · rename_i v0 t hf
              cases h
              obtain ⟨hck, hfk⟩ := findKey_run hC hok hkv hf hc hpm hd w
              obtain ⟨q, v', kv', idx, e0, m1, m2, m3, m4, m5, m6, m7, m8, ki, a, m9⟩ := hfk
              intro _
              have hmod : (Array.mk es').modify idx (fun e => { e with key := ρ' k, val := ρ' u }) = ⟨mset q.2 (ρ' u) es'⟩ := by
                apply Array.ext'
                rw [Array.toList_modify, modify_mset es' idx e0 (ρ' u) (ρ' k) (bornP hpm hbn) m4 m5.symm, m7]
              have hks : ((((Array.mk es')[idx]?).map (·.key)).getD (ρ' k)) = ρ' k := by
                simp [m4, m5]
              have hrun : (Instr.mapUpdate T (ρ' x) (ρ' k) (ρ' u)).run P w = .ok () { w with heap := w.heap.setIfInBounds p.1 (.map ⟨mset q.2 (ρ' u) es'⟩ c) } := by
                unfold Instr.mapUpdate
                simp only [Sem.run_bind, run_underlying hu, Result.andThen_ok, hme, run_getMap hb, hck, m8, hks]
                rw [m9, keyStays, Result.andThen_ok, ← m9, hmod, run_setMap hb]
              exact ⟨undef, _, E, .inr ⟨rfl, by rw [hex]; simp only [Sem.run_bind, hrun, Result.andThen_ok, Sem.run_pure]⟩, rfl, step_mset hH hln hg hp hb hc hpm hd hbn hlt m1 m2 hvv⟩
            · rename_i hf
              cases h
              obtain ⟨hck, hfk, hne⟩ := findKey_run hC hok hkv hf hc hpm hd w
              intro hn
              have hn := hn nx (Nat.le_refl _) (by omega)
              have hrun : (Instr.mapUpdate T (ρ' x) (ρ' k) (ρ' u)).run P w = .ok () { w with heap := w.heap.setIfInBounds p.1 (.map ⟨es' ++ [⟨ρ' k, ρ' u, c⟩]⟩ (c + 1)) } := by
                unfold Instr.mapUpdate
                simp only [Sem.run_bind, run_underlying hu, Result.andThen_ok, hme, run_getMap hb, hck, hfk]
                rw [run_setMap hb]
                simp only [List.push_toArray]
              exact ⟨undef, _, _, .inr ⟨rfl, by rw [hex]; simp only [Sem.run_bind, hrun, Result.andThen_ok, Sem.run_pure]⟩, rfl, step_mnew hH hn hln hg hp hb hc hpm hd hbn hlt hkv hvv hne⟩
          · cases h
        · cases h
    · cases h
  · cases h
theorem entry_ok {T : Nat} {x k : Operand} (hC : CxOK C P V.Y) (hH : HR V E H w) (ho : o.op = .mapEntry T x k) (hr : ∀ x, x ∈ o.op.operands → ∀ v, ρ x = some v → conc V.Y E v = some (ρ' x)) (h : opMapEntry C P ρ H nx T x k = some r) : OpOK V P ρ' o E H nx w r := by
  have h1 := hr x (by simp [ho, Op.operands])
  have h2 := hr k (by simp [ho, Op.operands])
  have hex : (execOp ρ' o) = (do pure (.value (← Instr.mapEntry T (ρ' x) (ρ' k)))) := by simp only [execOp, ho]
  unfold opMapEntry at h
  split at h
  · rename_i m kv hm hkv
    have hm := h1 _ hm
    have hkv := h2 _ hkv
    unfold entryV at h
    split at h
    · rename_i K e hu
      split at h
      · cases h
      · rename_i hok
        split at h
        · rename_i l
          split at h
          · rename_i es hbl hg
            rw [nblt] at hbl
            have hln := of_decide_eq_true hbl
            obtain ⟨p, hp, es', ces, c, hb, hc, hpm, hd, hbn, hlt⟩ := hH.has _ _ hg
            obtain ⟨q, hq, hme⟩ := conc_map_inv hm
            rw [hp] at hq; cases hq
            split at h
            · cases h
            · rename_i v0 t hf
              obtain ⟨hck, hfk⟩ := findKey_run hC hok hkv hf hc hpm hd w
              obtain ⟨q, v', kv', idx, e0, m1, m2, m3, m4, m5, m6, m7, m8, ki, a, m9⟩ := hfk
              split at h
              · cases h
                intro _
                have hks : ((((Array.mk es')[idx]?).map (·.key)).getD (ρ' k)) = ρ' k := by simp [m4, m5]
                have hbo : ((((Array.mk es')[idx]?).map (fun x => (x.born : Int))).getD 0) = q.2 := by simp [m4, m7]
                have hmod : (Array.mk es').modify idx (fun e => { e with key := ρ' k }) = ⟨es'⟩ := by
                  apply Array.ext'
                  rw [Array.toList_modify, modify_same es' idx e0 (ρ' k) m4 m5.symm]
                have hrun : (Instr.mapEntry T (ρ' x) (ρ' k)).run P w = .ok (.tuple #[v', .int .i64 q.2]) { w with heap := w.heap.setIfInBounds p.1 (.map ⟨es'⟩ c) } := by
                  unfold Instr.mapEntry
                  simp only [Sem.run_bind, run_underlying hu, Result.andThen_ok, hme, run_getMap hb, hck, m8, hks]
                  rw [m9, keyStays, Result.andThen_ok, ← m9, hmod, run_setMap hb]
                  simp only [Result.andThen_ok, Sem.run_pure, hbo, goInt]
                have hset : w.heap.setIfInBounds p.1 (.map ⟨es'⟩ c) = w.heap := by
                  apply Array.ext_getElem?
                  intro j
                  by_cases hj : j = p.1
                  · subst hj
                    rw [hb]
                    have := (Array.getElem?_eq_some_iff.1 hb).1
                    simp [this]
                  · rw [Array.getElem?_setIfInBounds_ne (Ne.symm hj)]
                rw [hset] at hrun
                replace hrun : (Instr.mapEntry T (ρ' x) (ρ' k)).run P w = .ok (.tuple #[v', .int .i64 q.2]) w := hrun
                have st : conc V.Y E (stamp t) = some (.int .i64 q.2) := by
                  unfold stamp conc
                  simp only [m2, Option.map_some]
                refine ⟨.tuple ⟨[v', .int .i64 q.2]⟩, w, E, .inl (by rw [hex]; simp only [Sem.run_bind, hrun, Result.andThen_ok, Sem.run_pure]), conc_tuple (concL_cons' m3 (concL_one st)), ?_⟩
                have s0 := Step.refl (V := V) hH nx
                exact ⟨s0.ext, s0.out, s0.le, s0.hr, fun k hk _ => (by simp at hk; subst hk; exact ⟨_, hg⟩), fun b hb _ => rfl, fun l p h1 h2 h3 => (by omega), fun k o hk _ _ => hk, rfl, rfl, rfl, Nat.le_refl _⟩
              · cases h
            · rename_i hf
              split at h
              · cases h
              · rename_i i hi
                split at h
                · cases h
                · rename_i z hz
                  split at h
                  · cases h
                  · rename_i hl
                    cases h
                    obtain ⟨hck, hfk, hne⟩ := findKey_run hC hok hkv hf hc hpm hd w
                    intro hn
                    have hn := hn nx (Nat.le_refl _) (by omega)
                    have hz' := lit_conc (Y := V.Y) (E := E) hl
                    have hrun : (Instr.mapEntry T (ρ' x) (ρ' k)).run P w = .ok (.tuple #[z, .int .i64 c]) { w with heap := w.heap.setIfInBounds p.1 (.map ⟨es' ++ [⟨ρ' k, z, c⟩]⟩ (c + 1)) } := by
                      unfold Instr.mapEntry
                      simp only [Sem.run_bind, run_underlying hu, Result.andThen_ok, hme, run_getMap hb, hck, hfk, run_zero1 hi hz]
                      rw [run_setMap hb]
                      simp only [List.push_toArray, Result.andThen_ok, Sem.run_pure, goInt]
                    have stp := step_mnew hH hn hln hg hp hb hc hpm hd hbn hlt hkv hz' hne
                    have st : conc V.Y (upd E nx (w.heap.size, c)) (stamp nx) = some (.int .i64 c) := by
                      unfold stamp conc
                      simp only [upd_self, Option.map_some]
                    exact ⟨_, _, _, .inl (by rw [hex]; simp only [Sem.run_bind, hrun, Result.andThen_ok, Sem.run_pure]), conc_tuple (concL_cons' (lit_conc hl) (concL_one st)), stp⟩
          · cases h
        · cases h
    · cases h
  · cases h
theorem hasS_mem {t : Nat} : ∀ {es : List (Value × Value × Nat)}, hasS t es = true → ∃ k v, (k, v, t) ∈ es
  | [], h => by cases h
  | (k, v, t') :: es, h => by
    unfold hasS at h
    split at h
    · rename_i ht
      rw [Nat.eq_of_beq_eq_true ht]
      exact ⟨k, v, List.mem_cons_self ..⟩
    · obtain ⟨k', v', hm⟩ := hasS_mem h
      exact ⟨k', v', List.mem_cons_of_mem _ hm⟩
theorem mem_born : ∀ {es : List (Value × Value × Nat)} {ces : List MapEntry}, concM Y E es = some ces → ∀ k v t p, (k, v, t) ∈ es → E t = some p → ∃ m, m ∈ ces ∧ m.born = p.2
  | [], _, _, _, _, _, _, he, _ => by cases he
  | (k, u, t) :: es, ces, h, k1, v1, t1, p, he, hp => by
    obtain ⟨k', u', q, ces', h1, h2, h3, h4, rfl⟩ := concM_cons h
    cases he with
    | head => rw [h3] at hp; cases hp; exact ⟨_, List.mem_cons_self .., rfl⟩
    | tail _ he =>
      obtain ⟨m, hm, hb⟩ := mem_born h4 k1 v1 t1 p he hp
      exact ⟨m, List.mem_cons_of_mem _ hm, hb⟩
theorem find_born (b : Nat) : ∀ (es : List MapEntry), (∃ m, m ∈ es ∧ m.born = b) → ∃ i e0, es.findIdx? (fun e => (e.born : Int) == (b : Int)) = some i ∧ es[i]? = some e0 ∧ e0.born = b
  | [], ⟨m, hm, _⟩ => by cases hm
  | e :: es, ⟨m, hm, hb⟩ => by
    rw [List.findIdx?_cons]
    by_cases he : e.born = b
    · simp [he]
    · have hbe : ((e.born : Int) == (b : Int)) = false := by simp; omega
      cases hm with
      | head => exact absurd hb he
      | tail _ hm =>
        obtain ⟨i, e0, h1, h2, h3⟩ := find_born b es ⟨m, hm, hb⟩
        exact ⟨i + 1, e0, by rw [hbe, h1]; rfl, by simpa using h2, h3⟩
theorem entryStore_ok {T : Nat} {x t u : Operand} (hC : CxOK C P V.Y) (hH : HR V E H w) (ho : o.op = .entryStore T x t u) (hr : ∀ x, x ∈ o.op.operands → ∀ v, ρ x = some v → conc V.Y E v = some (ρ' x)) (h : opEntryStore ρ H nx x t u = some r) : OpOK V P ρ' o E H nx w r := by
  have h1 := hr x (by simp [ho, Op.operands])
  have h2 := hr t (by simp [ho, Op.operands])
  have h3 := hr u (by simp [ho, Op.operands])
  have hex : (execOp ρ' o) = (do Instr.entryStore T (ρ' x) (ρ' t) (ρ' u); pure .skip) := by simp only [execOp, ho]
  unfold opEntryStore at h
  split at h
  · rename_i m tv vv hm htv hvv
    have hm := h1 _ hm
    have htv := h2 _ htv
    have hvv := h3 _ hvv
    unfold entryStoreV at h
    split at h
    · rename_i l tn h4 h5
      split at h
      · rename_i es hbl hg
        rw [nblt] at hbl
        have hln := of_decide_eq_true hbl
        obtain ⟨p, hp, es', ces, c, hb, hc, hpm, hd, hbn, hlt⟩ := hH.has _ _ hg
        obtain ⟨q, hq, hme⟩ := conc_map_inv hm
        rw [hp] at hq; cases hq
        split at h
        · rename_i hs
          cases h
          intro _
          obtain ⟨kv, v0, hmem⟩ := hasS_mem hs
          obtain ⟨q, hq, hte⟩ : ∃ q, E tn = some q ∧ ρ' t = .int .i64 q.2 := by
            unfold conc at htv
            simp only [Option.map_eq_some_iff] at htv
            obtain ⟨q, h1, h2⟩ := htv
            exact ⟨q, h1, h2.symm⟩
          obtain ⟨m, hm1, hm2⟩ := mem_born hc _ _ _ q hmem hq
          obtain ⟨i, e0, f1, f2, f3⟩ := find_born q.2 es' ⟨m, hpm.mem_iff.2 hm1, hm2⟩
          have hmod : (Array.mk es').modify i (fun e => { e with val := ρ' u }) = ⟨mset q.2 (ρ' u) es'⟩ := by
            apply Array.ext'
            rw [Array.toList_modify, modify_mset' es' i e0 (ρ' u) (bornP hpm hbn) f2, f3]
          have hfi : (Array.mk es').findIdx? (fun e => (e.born : Int) == (q.2 : Int)) = some i := by
            simpa using f1
          have hrun : (Instr.entryStore T (ρ' x) (ρ' t) (ρ' u)).run P w = .ok () { w with heap := w.heap.setIfInBounds p.1 (.map ⟨mset q.2 (ρ' u) es'⟩ c) } := by
            unfold Instr.entryStore
            simp only [hme, hte, Sem.run_bind, run_getMap hb, Result.andThen_ok, asInt, asIntOf, Sem.run_pure, hfi, hmod]
            rw [run_setMap hb]
          exact ⟨undef, _, E, .inr ⟨rfl, by rw [hex]; simp only [Sem.run_bind, hrun, Result.andThen_ok, Sem.run_pure]⟩, rfl, step_mset hH hln hg hp hb hc hpm hd hbn hlt hmem hq hvv⟩
        · cases h
      · cases h
    · cases h
  · cases h
theorem opMakeMap_ok {T : Nat} (hH : HR V E H w) (ho : o.op = .makeMap T none) (h : opMakeMap H nx = some r) : OpOK V P ρ' o E H nx w r := by
  unfold opMakeMap at h
  have hrun : (execOp ρ' o).run P w = .ok (.value (.map (some w.heap.size))) (w.alloc (.map ⟨[]⟩ 0)) := by
    simp only [execOp, ho]
    rfl
  exact mk_ok (ao := .m []) hH _ 0 (fun b => .map (some b)) hrun (fun E' h' => conc_map h') (fun hn => ⟨[], [], 0, heap_alloc_new w _, rfl, List.Perm.refl _, List.Pairwise.nil, List.Pairwise.nil, fun e he => (by cases he)⟩) h
theorem stamps_of {c : Nat} : ∀ {es : List (Value × Value × Nat)} {ces : List MapEntry}, concM V.Y E es = some ces → (∀ e ∈ ces, e.born < c) → ∀ t, t ∈ stampsL es → ∃ r, E t = some r ∧ r.2 < c
  | [], _, _, _, t, ht => by cases ht
  | (k, v, s) :: es, ces, h, hc, t, ht => by
    obtain ⟨k', v', p, es', _, _, h3, h4, rfl⟩ := concM_cons h
    cases ht with
    | head => exact ⟨p, h3, hc _ (List.mem_cons_self ..)⟩
    | tail _ ht => exact stamps_of h4 (fun e he => hc e (List.mem_cons_of_mem _ he)) t ht
theorem opRange_ok {T : Nat} {x : Operand} (hH : HR V E H w) (ho : o.op = .range T x) (hr : ∀ x, x ∈ o.op.operands → ∀ v, ρ x = some v → conc V.Y E v = some (ρ' x)) (h : opRange P ρ H nx T x = some r) : OpOK V P ρ' o E H nx w r := by
  have h1 := hr x (by simp [ho, Op.operands])
  have hex : (execOp ρ' o) = (do pure (.value (← Instr.range T (ρ' x)))) := by simp only [execOp, ho]
  unfold opRange at h
  split at h
  · rename_i K e hu hx
    have hx := h1 _ hx
    have hme : ρ' x = .map none := (Option.some.inj hx).symm
    have hrun : (execOp ρ' o).run P w = .ok (.value (.pointer (some ⟨w.heap.size, 0, none⟩))) (w.alloc (.mapIter none 0 #[] 0)) := by
      rw [hex]
      simp only [Instr.range, hme, Sem.run_bind, run_underlying hu, Result.andThen_ok, Sem.run_pure, run_newObj]
      rfl
    exact mk_ok (ao := .it none [] []) hH _ 0 (fun b => .pointer (some ⟨b, 0, none⟩)) hrun (fun E' h' => conc_ptr h') (fun hn => ⟨0, #[], 0, heap_alloc_new w _⟩) h
  · rename_i K e l hu hx
    have hx := h1 _ hx
    split at h
    · rename_i es hg
      obtain ⟨p, hp, es', ces, c, hb, hces, _, _, _, hbc⟩ := hH.has _ _ hg
      obtain ⟨q, hq, hme⟩ := conc_map_inv hx
      rw [hp] at hq; cases hq
      have hrun : (execOp ρ' o).run P w = .ok (.value (.pointer (some ⟨w.heap.size, 0, none⟩))) (w.alloc (.mapIter (some p.1) c #[] c)) := by
        rw [hex]
        simp only [Instr.range, hme, Sem.run_bind, run_underlying hu, Result.andThen_ok, run_getMap hb, Sem.run_pure, run_newObj]
        rfl
      exact mk_ok (ao := .it (some l) (stampsL es) []) hH _ 0 (fun b => .pointer (some ⟨b, 0, none⟩)) hrun (fun E' h' => conc_ptr h') (fun hn => ⟨c, [], c, p, upd_ext _ hn _ _ hp, heap_alloc_new w _, rfl, fun t ht => (stamps_of hces hbc t ht).imp fun r hr => ⟨upd_ext _ hn _ _ hr.1, hr.2, hr.2⟩⟩) h
    · cases h
  · cases h
theorem opNext_ok {x : Operand} (hH : HR V E H w) (ho : o.op = .next x false) (hr : ∀ x, x ∈ o.op.operands → ∀ v, ρ x = some v → conc V.Y E v = some (ρ' x)) (h : opNext ρ H x = some r) : OpOK V P ρ' o E H nx w r := by
  have h1 := hr x (by simp [ho, Op.operands])
  have hex : (execOp ρ' o) = (do pure (.value (← Instr.next (ρ' x) false o.type))) := by simp only [execOp, ho]
  have getIt : ∀ (b : Nat) (ob : Obj), w.heap[b]? = some ob → (∀ c e f, ob ≠ .cells c e f) → (getObj b).run P w = .ok ob w := by
    intro b ob hb hne
    show Sem.run P (.getObj b .pure) w = _
    unfold Sem.run
    rw [hb]
    cases ob <;> first | rfl | exact absurd rfl (hne _ _ _)
  unfold opNext at h
  split at h
  · rename_i l hx
    obtain ⟨p, hp, hpe⟩ := conc_ptr_inv (h1 _ hx)
    unfold nextV at h
    split at h
    · rename_i hg
      cases h
      obtain ⟨q, hq, s, seen, st, hb⟩ := hH.has _ _ hg
      rw [hp] at hq; cases hq
      refine ⟨_, conc_tuple (concL_one rfl), ?_⟩
      rw [hex]
      simp only [Instr.next, hpe, Sem.run_bind, getIt _ _ hb (by simp), Result.andThen_ok, Sem.run_pure]
    · rename_i m hg
      split at h
      · rename_i hgm
        cases h
        obtain ⟨q, hq, s, seen, st, qm, hqm, hb, _⟩ := hH.has _ _ hg
        rw [hp] at hq; cases hq
        obtain ⟨q2, hq2, es', ces, c, hbm, hc, hpm, _⟩ := hH.has _ _ hgm
        rw [hqm] at hq2; cases hq2
        cases hc
        have he : es' = [] := hpm.eq_nil
        subst he
        refine ⟨_, conc_tuple (concL_one rfl), ?_⟩
        rw [hex]
        simp [Instr.next, hpe, getIt _ _ hb, run_getMap hbm, Question.forced]
      · cases h
    · cases h
  · cases h
end
end Go.Proofs.YtigjjddblijpbaaGreatDoor.Ex
namespace Go.Proofs.YtigjjddblijpbaaGreatDoor.Ex
open Go
set_option linter.unusedSimpArgs false
set_option linter.unusedVariables false

section
variable {V : Ev} {P : Program} {C : Cx} {E : Lb} {H : Hp} {nx : Nat} {w : World} {Y : Sy} {ρ : Operand → Option Value} {ρ' : Operand → Value} {o : Oper} {r : R}
theorem litN_inv {v : Value} {n : Nat} (h : litN v = some n) : ∃ k, v = .int k n := by
  unfold litN at h
  split at h
  · cases h; exact ⟨_, rfl⟩
  · cases h
theorem conc_int {k : IntKind} {n : Int} {v : Value} (h : conc Y E (.int k n) = some v) : v = .int k n := (Option.some.inj h).symm
theorem fieldAt_inv {T f off ty n : Nat} (h : fieldAt P T f = some (off, ty, n)) : ∃ fs fd i, P.underlying T = some (.struct fs) ∧ fs[f]? = some fd ∧ fd.offset = off ∧ fd.type = ty ∧ P.info? ty = some i ∧ i.size = n := by
  unfold fieldAt at h
  split at h
  · rename_i fs hu
    split at h
    · rename_i fd hfd
      split at h
      · rename_i m hm
        cases h
        obtain ⟨i, hi, hs⟩ := szOf_some hm
        rw [nth_eq] at hfd
        exact ⟨fs, fd, i, hu, by simpa using hfd, rfl, rfl, hi, hs⟩
      · cases h
    · cases h
  · cases h
theorem opFieldAddr_ok {T f : Nat} {x : Operand} (ho : o.op = .fieldAddr T x f) (hr : ∀ x, x ∈ o.op.operands → ∀ v, ρ x = some v → conc V.Y E v = some (ρ' x)) (h : opFieldAddr P ρ T x f = some r) : OpOK V P ρ' o E H nx w r := by
  have h1 := hr x (by simp [ho, Op.operands])
  unfold opFieldAddr at h
  split at h
  · rename_i l i off ty n hx hf
    obtain ⟨p, hp, hpe⟩ := conc_ptr_inv (h1 _ hx)
    obtain ⟨fs, fd, ti, hu, hfd, rfl, rfl, hti, rfl⟩ := fieldAt_inv hf
    split at h
    · rename_i hn
      cases h
      rw [nbeq] at hn
      have hn := of_decide_eq_false hn
      refine ⟨_, conc_ptr hp, ?_⟩
      simp only [execOp, ho, Sem.run_bind, Instr.fieldAt, run_underlying hu, Result.andThen_ok, hfd, hpe, Instr.sureAddr, Sem.run_pure, fieldPlace, run_sizeOf1 hti, hn, if_false, Addr.add_mid]
    · cases h
  · cases h
theorem opField_ok {T f : Nat} {x : Operand} (ho : o.op = .field T x f) (hr : ∀ x, x ∈ o.op.operands → ∀ v, ρ x = some v → conc V.Y E v = some (ρ' x)) (h : opField P ρ T x f = some r) : OpOK V P ρ' o E H nx w r := by
  have h1 := hr x (by simp [ho, Op.operands])
  unfold opField at h
  split at h
  · rename_i cs off ty n hx hf
    obtain ⟨cs', hc, hpe⟩ := conc_agg_inv (h1 _ hx)
    obtain ⟨fs, fd, ti, hu, hfd, rfl, rfl, hti, rfl⟩ := fieldAt_inv hf
    split at h
    · rename_i v hv
      cases h
      obtain ⟨v', h2, h3⟩ := part_run (P := P) (w := w) hv hc
      refine ⟨v', h2, ?_⟩
      simp only [execOp, ho, Sem.run_bind, Instr.field, run_underlying hu, Result.andThen_ok, hfd, hpe, asAgg, Sem.run_pure, h3]
    · cases h
  · cases h
theorem opIndexAddr_ok {T : Nat} {x ix : Operand} (ho : o.op = .indexAddr T x ix) (hr : ∀ x, x ∈ o.op.operands → ∀ v, ρ x = some v → conc V.Y E v = some (ρ' x)) (h : opIndexAddr P ρ T x ix = some r) : OpOK V P ρ' o E H nx w r := by
  have h1 := hr x (by simp [ho, Op.operands])
  have h2 := hr ix (by simp [ho, Op.operands])
  unfold opIndexAddr at h
  split at h
  · rename_i e l i s n c k hu hx hk
    split at h
    · rename_i j sz hj hsz
      obtain ⟨kk, rfl⟩ := litN_inv hj
      have hk := conc_int (h2 _ hk)
      obtain ⟨ti, hti, rfl⟩ := szOf_some hsz
      split at h
      · rename_i hlt
        cases h
        rw [nblt] at hlt
        have hlt := of_decide_eq_true hlt
        have key : ∃ p c', E l = some p ∧ ρ' x = .slice (some ⟨p.1, i, none⟩) n c' := by
          have hx := h1 _ hx
          cases s with
          | none => obtain ⟨p, hp, he⟩ := conc_sl_inv hx; exact ⟨p, _, hp, he⟩
          | some s => obtain ⟨p, hp, he⟩ := conc_sr_inv hx; exact ⟨p, _, hp, he⟩
        obtain ⟨p, c', hp, hpe⟩ := key
        refine ⟨_, conc_ptr hp, ?_⟩
        have hcond : (0 : Int) ≤ (j : Int) ∧ (j : Int) < (n : Int) := ⟨by omega, by omega⟩
        simp [execOp, ho, Instr.indexAt, asIntOf, hk, hpe, run_underlying hu, run_sizeOf1 hti, hlt, Addr.add_mid]
      · cases h
    · cases h
  · rename_i n e l i k hu hx hk
    split at h
    · rename_i j sz hj hsz
      obtain ⟨kk, rfl⟩ := litN_inv hj
      have hk := conc_int (h2 _ hk)
      obtain ⟨ti, hti, rfl⟩ := szOf_some hsz
      split at h
      · rename_i hlt
        cases h
        rw [nblt] at hlt
        have hlt := of_decide_eq_true hlt
        obtain ⟨p, hp, hpe⟩ := conc_ptr_inv (h1 _ hx)
        refine ⟨_, conc_ptr hp, ?_⟩
        simp [execOp, ho, Instr.indexAt, Instr.sureAddr, asIntOf, hk, hpe, run_underlying hu, run_sizeOf1 hti, hlt, Addr.add_mid]
      · cases h
    · cases h
  · cases h
theorem opIndex_ok {T : Nat} {x ix : Operand} (ho : o.op = .index T x ix) (hr : ∀ x, x ∈ o.op.operands → ∀ v, ρ x = some v → conc V.Y E v = some (ρ' x)) (h : opIndex P ρ T x ix = some r) : OpOK V P ρ' o E H nx w r := by
  have h1 := hr x (by simp [ho, Op.operands])
  have h2 := hr ix (by simp [ho, Op.operands])
  unfold opIndex at h
  split at h
  · rename_i n e cs k hu hx hk
    split at h
    · rename_i j sz hj hsz
      obtain ⟨kk, rfl⟩ := litN_inv hj
      have hk := conc_int (h2 _ hk)
      obtain ⟨ti, hti, rfl⟩ := szOf_some hsz
      split at h
      · rename_i hlt
        rw [nblt] at hlt
        have hlt := of_decide_eq_true hlt
        split at h
        · rename_i v hv
          cases h
          obtain ⟨cs', hc, hpe⟩ := conc_agg_inv (h1 _ hx)
          obtain ⟨v', h3, h4⟩ := part_run (P := P) (w := w) hv hc
          refine ⟨v', h3, ?_⟩
          simp [execOp, ho, Instr.index, asIntOf, hk, hpe, run_underlying hu, run_sizeOf1 hti, hlt, h4]
        · cases h
      · cases h
    · cases h
  · rename_i b k hu hx hk
    split at h
    · rename_i j hj
      obtain ⟨kk, rfl⟩ := litN_inv hj
      have hk := conc_int (h2 _ hk)
      split at h
      · rename_i c hc
        cases h
        have hx : ρ' x = .string b := (Option.some.inj (h1 _ hx)).symm
        rw [nth_eq] at hc
        have hb : b[j]? = some c := by
          have : b.data[j]? = some c := by simpa using hc
          have hlt : j < b.data.size := (Array.getElem?_eq_some_iff.1 this).1
          have he := (Array.getElem?_eq_some_iff.1 this).2
          have hlt' : j < b.size := hlt
          rw [getElem?_pos b j hlt']
          congr 1
        refine ⟨.int .u8 c.toNat, rfl, ?_⟩
        simp [execOp, ho, Instr.index, asIntOf, hk, hx, run_underlying hu, hb]
      · cases h
    · cases h
  · cases h
theorem opMakeSlice_ok {T : Nat} {a b : Operand} (hH : HR V E H w) (ho : o.op = .makeSlice T a b) (hr : ∀ x, x ∈ o.op.operands → ∀ v, ρ x = some v → conc V.Y E v = some (ρ' x)) (h : opMakeSlice P ρ H nx T a b = some r) : OpOK V P ρ' o E H nx w r := by
  have h1 := hr a (by simp [ho, Op.operands])
  have h2 := hr b (by simp [ho, Op.operands])
  unfold opMakeSlice at h
  split at h
  · rename_i e va vb hu ha hb
    split at h
    · rename_i n c i hn hc hi
      obtain ⟨ka, rfl⟩ := litN_inv hn
      obtain ⟨kb, rfl⟩ := litN_inv hc
      have ha := conc_int (h1 _ ha)
      have hb := conc_int (h2 _ hb)
      split at h
      · rename_i z hz
        split at h
        · rename_i hg
          simp only [Bool.and_eq_true, nble, nbeq, decide_eq_true_eq] at hg
          obtain ⟨⟨⟨⟨hl, hs⟩, hnc⟩, hc5⟩, hby⟩ := hg
          have hz1 := lit1_conc (Y := V.Y) (E := E) hl
          have hzc : z.cells = ⟨[z]⟩ := by cases z <;> first | rfl | cases hl
          have hrun := run_makeSlice (P := P) (w := w) T e i z hu hi hz ka kb n c (by omega) (by omega) (by rw [hs]; simp; omega) (by
            have : i.bytes * c ≤ 1000 * 100000 := Nat.mul_le_mul hby hc5
            have h2 : ((i.bytes * c : Nat) : Int) ≤ 100000000 := by omega
            rw [Int.natCast_mul] at h2
            omega) (by omega)
          have hm : madeCells z.cells ((c : Int).toNat * i.size) = ⟨repL c [z]⟩ := by
            unfold madeCells
            rw [hzc, rep_array c _ (by simp [hs])]
          rw [hm] at hrun
          simp only [Int.toNat_natCast] at hrun
          have hrun' : (execOp ρ' o).run P w = .ok (.value (.slice (some ⟨w.heap.size, 0, none⟩) n c)) (w.alloc (.cells ⟨repL c [z]⟩ e)) := by
            simp only [execOp, ho, Sem.run_bind, ha, hb, hrun, Result.andThen_ok, Sem.run_pure]
          exact mk_ok hH _ 0 (fun b => .slice (some ⟨b, 0, none⟩) n c) hrun' (fun E' h' => conc_sl h') (fun hn => holds_c (rep_conc (concL_one hz1) c) e 0 hn) h
        · cases h
      · cases h
    · cases h
  · cases h
/-- An operand that may be missing, as it is. -/
def OptR (Y : Sy) (E : Lb) : Option (Option Value) → Option Value → Prop
  | none, none => True
  | some (some v), some v' => conc Y E v = some v'
  | some none, some _ => True
  | _, _ => False
theorem optR {lo : Option Operand} (hr : ∀ x, lo = some x → ∀ v, ρ x = some v → conc Y E v = some (ρ' x)) : OptR Y E (lo.map ρ) (lo.map ρ') := by
  cases lo with
  | none => trivial
  | some x =>
    cases hx : ρ x with
    | none => simp [OptR, hx]
    | some v => simp only [Option.map_some, hx, OptR]; exact hr x rfl v hx
theorem bound_run {k : IntKind} {n y : Nat} (h : n ≤ y) (code : BoundsCode) (w : World) : (Instr.sliceBound (.int k n) y code).run P w = .ok n w := by
  have h1 : (0 : Int) ≤ (n : Int) ∧ (n : Int) ≤ (y : Int) := ⟨by omega, by omega⟩
  simp [Instr.sliceBound, asIntOf, h]
theorem bounds_run {len : Nat} {cap : Option Nat} {lo hi mx : Option (Option Value)} {lo' hi' mx' : Option Value} {l h : Nat} {m : Option Nat} (hb : bounds len cap lo hi mx = some (l, h, m)) (hlo : OptR Y E lo lo') (hhi : OptR Y E hi hi') (hmx : OptR Y E mx mx')
    (c' : Nat) (hc : (match cap with | some c => c' = c | none => len ≤ c')) (w : World) :
    (Instr.sliceBounds true len c' lo' hi' mx').run P w = .ok (l, h, m.getD c') w := by
  unfold bounds at hb
  split at hb
  · cases hb
  · rename_i m0 hm0
    have hmax : (mx = none ∧ mx' = none ∧ m0 = cap) ∨ (∃ (v v' : Value) (k : IntKind) (n c : Nat), mx = some (some v) ∧ mx' = some v' ∧ v' = .int k n ∧ cap = some c ∧ n ≤ c ∧ m0 = some n) := by
      split at hm0
      · cases hm0
        cases mx' with
        | none => exact .inl ⟨rfl, rfl, rfl⟩
        | some _ => exact hmx.elim
      · rename_i v
        split at hm0
        · rename_i n c hn
          split at hm0
          · rename_i hle
            cases hm0
            cases mx' with
            | none => exact hmx.elim
            | some v' =>
              obtain ⟨k, rfl⟩ := litN_inv hn
              exact .inr ⟨_, v', k, n, c, rfl, rfl, conc_int hmx, rfl, Nat.le_of_ble_eq_true hle, rfl⟩
          · cases hm0
        · cases hm0
      · cases hm0
    split at hb
    · cases hb
    · rename_i h0 hh0
      split at hb
      · cases hb
      · rename_i l0 hl0
        cases hb
        have hhigh : ((hi = none ∧ hi' = none ∧ mx = none ∧ h = len) ∨ ∃ k, hi' = some (.int k h) ∧ ((∀ c, m = some c → h ≤ c) ∧ (m = none → h ≤ len))) := by
          split at hh0
          · split at hh0
            · cases hh0
              cases hi' with
              | none => exact .inl ⟨rfl, rfl, rfl, rfl⟩
              | some _ => exact hhi.elim
            · cases hh0
          · rename_i v
            split at hh0
            · rename_i n hn
              cases hi' with
              | none => exact hhi.elim
              | some v' =>
                obtain ⟨k, rfl⟩ := litN_inv hn
                have hv' := conc_int hhi
                subst hv'
                split at hh0
                · split at hh0
                  · rename_i hle
                    cases hh0
                    exact .inr ⟨k, rfl, fun c' e => (by cases e; exact Nat.le_of_ble_eq_true hle), fun e => (by cases e)⟩
                  · cases hh0
                · split at hh0
                  · rename_i hle
                    cases hh0
                    exact .inr ⟨k, rfl, fun c' e => (by cases e), fun _ => Nat.le_of_ble_eq_true hle⟩
                  · cases hh0
            · cases hh0
          · cases hh0
        have hlow : ((lo' = none ∧ l = 0) ∨ ∃ k, lo' = some (.int k l) ∧ l ≤ h) := by
          split at hl0
          · cases hl0
            cases lo' with
            | none => exact .inl ⟨rfl, rfl⟩
            | some _ => exact hlo.elim
          · rename_i v
            split at hl0
            · rename_i n hn
              cases lo' with
              | none => exact hlo.elim
              | some v' =>
                obtain ⟨k, rfl⟩ := litN_inv hn
                have hv' := conc_int hlo
                subst hv'
                split at hl0
                · rename_i hle
                  cases hl0
                  exact .inr ⟨k, rfl, Nat.le_of_ble_eq_true hle⟩
                · cases hl0
            · cases hl0
          · cases hl0
        rcases hmax with ⟨e1, rfl, rfl⟩ | ⟨v, v', k, n, c, e1, rfl, rfl, rfl, hnc, rfl⟩
        · have hcm : m.getD c' = c' := by
            cases m with
            | none => rfl
            | some c => exact hc.symm
          rw [hcm]
          rcases hhigh with ⟨_, rfl, _, rfl⟩ | ⟨kh, rfl, hle⟩
          · rcases hlow with ⟨rfl, rfl⟩ | ⟨kl, rfl, hl⟩
            · simp [Instr.sliceBounds]
            · simp [Instr.sliceBounds, bound_run hl]
          · have hle : h ≤ c' := by
              cases m with
              | none => exact Nat.le_trans (hle.2 rfl) hc
              | some c => have := hle.1 c rfl; simp only at hc; omega
            rcases hlow with ⟨rfl, rfl⟩ | ⟨kl, rfl, hl⟩
            · simp [Instr.sliceBounds, bound_run hle]
            · simp [Instr.sliceBounds, bound_run hle, bound_run hl]
        · simp only at hc
          subst hc
          rcases hhigh with ⟨_, rfl, h0, _⟩ | ⟨kh, rfl, hle⟩
          · rw [e1] at h0; cases h0
          · rcases hlow with ⟨rfl, rfl⟩ | ⟨kl, rfl, hl⟩
            · simp [Instr.sliceBounds, bound_run hnc, bound_run (hle.1 _ rfl)]
            · simp [Instr.sliceBounds, bound_run hnc, bound_run (hle.1 _ rfl), bound_run hl]
end
end Go.Proofs.YtigjjddblijpbaaGreatDoor.Ex
