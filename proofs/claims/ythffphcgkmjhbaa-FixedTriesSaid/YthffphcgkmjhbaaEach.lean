/-
  Regions whose order is left open, by one claim for each operation: what it leaves, in whatever order the others come up.
-/
import Derived.OrdersHeld
import Derived.Deep.RegionHeld
import Derived.Below
namespace Go.Proofs.Ythffphcgkmjhbaa
open Go Go.RowKit
section
variable {P : Program} {ops : Array Oper} {Q : Exit → Act → World → Prop} {md : Region.Mode}

/-- Whatever an operation waits for stands ahead of it in the text. -/
def earlier (ops : Array Oper) : Bool := (List.range ops.size).all fun i => ((ops[i]?).map fun o => o.after.all fun e => !Region.binds .any e || decide (e.on < i)).getD true
theorem earlier_spec (h : earlier ops = true) {i : Nat} {o : Oper} (ho : ops[i]? = some o) {e : Edge} (he : e ∈ o.after) (hb : Region.binds .any e = true) : e.on < i := by
  have hlt : i < ops.size := (Array.getElem?_eq_some_iff.1 ho).1
  unfold earlier at h
  have h1 := List.all_eq_true.1 h i (List.mem_range.2 hlt)
  rw [ho] at h1
  simp only [Option.map_some, Option.getD_some, Array.all_eq_true_iff_forall_mem, Bool.or_eq_true, decide_eq_true_eq] at h1
  exact (h1 e he).resolve_left (by simp [hb])
/-- Does operation i wait for operation k, through others too? -/
def anc (ops : Array Oper) : Nat → Nat → Nat → Bool
  | 0, _, _ => false
  | f + 1, i, k => ((ops[i]?).map fun o => o.after.toList.any fun e => Region.binds .any e && (e.on == k || anc ops f e.on k)).getD false
/-- Whatever has come up, all for which it waits has come up. -/
def closed (ops : Array Oper) (listed : Array Bool) : Prop :=
  ∀ i o, ops[i]? = some o → listed.getD i false = true → ∀ e ∈ o.after, Region.binds .any e = true → listed.getD e.on false = true
theorem anc_listed {listed : Array Bool} (hc : closed ops listed) : ∀ (f i k : Nat),
    (∀ o, ops[i]? = some o → ∀ e ∈ o.after, Region.binds .any e = true → listed.getD e.on false = true) → anc ops f i k = true → listed.getD k false = true
  | 0, _, _, _, h => by simp [anc] at h
  | f + 1, i, k, hd, h => by
    unfold anc at h
    cases ho : ops[i]? with
    | none => rw [ho] at h; simp at h
    | some o =>
      rw [ho] at h
      simp only [Option.map_some, Option.getD_some, List.any_eq_true, Array.mem_toList_iff, Bool.and_eq_true, Bool.or_eq_true, beq_iff_eq] at h
      obtain ⟨e, he, hb, h⟩ := h
      have hl := hd o ho e he hb
      rcases h with rfl | h
      · exact hl
      · exact anc_listed hc f e.on k (fun o' ho' => hc e.on o' ho' hl) h
theorem all_listed (h : earlier ops = true) {listed : Array Bool} (hs : listed.size = ops.size) (hr : Region.ready .any ops listed = []) :
    ∀ i, i < ops.size → listed.getD i false = true := by
  intro i
  induction i using Nat.strongRecOn with
  | ind i ih =>
    intro hi
    cases hg : listed.getD i false with
    | true => rfl
    | false =>
      have ho : ops[i]? = some ops[i] := Array.getElem?_eq_getElem hi
      have h1 : i ∈ Region.ready .any ops listed := by
        rw [mem_ready]
        refine ⟨?_, ops[i], ho, fun e he hb => ?_⟩
        · have hl : i < listed.size := by omega
          simp [hl] at hg ⊢
          exact hg
        · have := earlier_spec h ho he hb
          exact ih e.on this (by omega)
      rw [hr] at h1
      cases h1
def upd (vs : Nat → Value) (i : Nat) (v : Value) : Nat → Value := fun k => if k = i then v else vs k
theorem upd_self (vs : Nat → Value) (i : Nat) (v : Value) : upd vs i v i = v := by simp [upd]
theorem upd_ne (vs : Nat → Value) (i : Nat) (v : Value) (k : Nat) (h : k ≠ i) : upd vs i v k = vs k := by simp [upd, h]
theorem set_size (listed : Array Bool) (i : Nat) : (listed.setIfInBounds i true).size = listed.size := by simp
theorem getD_self {listed : Array Bool} {i : Nat} (h : i < listed.size) : (listed.setIfInBounds i true).getD i false = true := by simp [h]
theorem wpAny_inv (he : earlier ops = true) (I : Array Bool → Act → World → Prop)
    (step : ∀ listed a w, listed.size = ops.size → closed ops listed → I listed a w → ∀ i, i ∈ Region.ready .any ops listed → wpOp P ops Q i (I (listed.setIfInBounds i true)) a w)
    (fin : ∀ listed a w, (∀ i, i < ops.size → listed.getD i false = true) → I listed a w → Q .normal a w) :
    ∀ (fuel : Nat) (listed : Array Bool) (a : Act) (w : World), listed.size = ops.size → closed ops listed → listed.toList.count false ≤ fuel → I listed a w → wpAny P .any ops Q fuel listed a w
  | 0, listed, a, w, hs, hc, hf, hI => by
    have h0 : ∀ i, i < ops.size → listed.getD i false = true := by
      intro i hi
      have hl : i < listed.size := by omega
      have h1 := List.count_eq_zero.1 (Nat.le_zero.1 hf)
      cases hg : listed[i] with
      | true => simp [hl, hg]
      | false => exact absurd (by rw [← hg, ← Array.getElem_toList]; exact List.getElem_mem _) h1
    refine ⟨?_, fin listed a w h0 hI⟩
    rw [List.eq_nil_iff_forall_not_mem]
    intro i hi
    obtain ⟨h1, o, ho, _⟩ := mem_ready.1 hi
    have hlt : i < ops.size := (Array.getElem?_eq_some_iff.1 ho).1
    have h2 := h0 i hlt
    have hl : i < listed.size := by omega
    simp [hl] at h1 h2
    rw [h1] at h2; cases h2
  | fuel + 1, listed, a, w, hs, hc, hf, hI => by
    refine ⟨fun hr => fin listed a w (all_listed he hs hr) hI, fun i hi => ?_⟩
    obtain ⟨h1, o, ho, hdep⟩ := mem_ready.1 hi
    have hlt : i < ops.size := (Array.getElem?_eq_some_iff.1 ho).1
    have hl : i < listed.size := by omega
    refine wpOp_mono (fun a' w' h => wpAny_inv he I step fin fuel _ a' w' (by rw [set_size]; exact hs) ?_ ?_ h) (step listed a w hs hc hI i hi)
    · intro j oj hj hjl e hej hb
      by_cases hij : j = i
      · subst hij
        rw [ho] at hj
        obtain rfl := Option.some.inj hj
        exact getD_set_true (hdep e hej hb)
      · rw [getD_set_ne false (fun h => hij h.symm)] at hjl
        exact getD_set_true (hc j oj hj hjl e hej hb)
    · have h2 : listed[i] = false := by simpa [hl] using h1
      have h3 : (listed.setIfInBounds i true).toList.count false + 1 = listed.toList.count false := by
        rw [Array.toList_setIfInBounds, List.count_set (by simpa using hl)]
        have h4 : listed.toList[i]'(by simpa using hl) = false := by simpa using h2
        rw [h4]
        have h5 : 0 < listed.toList.count false := List.count_pos_iff.2 (by rw [← h4]; exact List.getElem_mem _)
        simp only [beq_self_eq_true, if_true]
        have h6 : (true == false) = false := rfl
        rw [h6]
        simp only [Bool.false_eq_true, if_false]
        omega
      omega
/-- The state of a region: which temporaries hold what; what stands in memory. -/
theorem wp_region_each {id : Nat} {a : Act} {w : World} (hm : P.follows .mixedOrders = true) (he : earlier ops = true)
    (fr : (Nat → Value) → Act) (B : World → Prop) (V : Nat → (Nat → Value) → World → Prop) (vs0 : Nat → Value) (ha : fr vs0 = a) (hB : B w.drew)
    (step : ∀ i o, ops[i]? = some o → ∀ vs w, B w → (∀ k, anc ops ops.size i k = true → V k vs w) → ∀ K : Act → World → Prop,
      Shut (∀ v w', B w' → V i (upd vs i v) w' → (∀ j, j ≠ i → anc ops ops.size j i = false → V j vs w → V j (upd vs i v) w') → K (fr (upd vs i v)) w') →
      if Region.wanted o (yielded ops (fr vs).tmps) = true then Oper.wp P o (fr vs) w K Q else K ((fr vs).put o.dst undef) w)
    (fin : ∀ vs w, B w → (∀ i, i < ops.size → V i vs w) → Q .normal (fr vs) w) : (Code.region id ops true).wp P Q a w := by
  refine wp_region_any hm ?_
  refine wpAny_inv he (fun listed a w => ∃ vs, a = fr vs ∧ B w ∧ ∀ i, listed.getD i false = true → V i vs w) ?_ ?_ _ _ _ _ (by simp) ?_ (by simp) ⟨vs0, ha.symm, hB, ?_⟩
  · rintro listed a w hs hc ⟨vs, rfl, hB, hV⟩ i hi
    obtain ⟨h1, o, ho, hdep⟩ := mem_ready.1 hi
    have hlt : i < ops.size := (Array.getElem?_eq_some_iff.1 ho).1
    have hl : i < listed.size := by omega
    have h2 : listed.getD i false = false := by simp [hl] at h1 ⊢; exact h1
    refine wpOp_step ho (fun K hK => ?_)
    refine step i o ho vs w hB (fun k hk => hV k (anc_listed hc _ i k (fun o' ho' => ?_) hk)) K (fun v w' hB' hv hrest => hK _ _ ⟨upd vs i v, rfl, hB', fun j hj => ?_⟩)
    · rw [ho] at ho'
      obtain rfl := Option.some.inj ho'
      exact hdep
    · by_cases hji : j = i
      · subst hji; exact hv
      · rw [getD_set_ne false (fun h => hji h.symm)] at hj
        refine hrest j hji ?_ (hV j hj)
        cases ha : anc ops ops.size j i with
        | false => rfl
        | true =>
          have := anc_listed hc _ j i (fun o' ho' => hc j o' ho' hj) ha
          rw [h2] at this; cases this
  · rintro listed a w hall ⟨vs, rfl, hB, hV⟩
    exact fin vs w hB (fun i hi => hV i (hall i hi))
  · intro i o _ h
    rw [Array.getD_eq_getD_getElem?, Array.getElem?_replicate] at h
    split at h <;> simp at h
  · intro i h
    rw [Array.getD_eq_getD_getElem?, Array.getElem?_replicate] at h
    split at h <;> simp at h
/-- The same, where what is known of a value hangs on no other one, and lasts. -/
theorem wp_region_vals {id : Nat} {a : Act} {w : World} (hm : P.follows .mixedOrders = true) (he : earlier ops = true)
    (fr : (Nat → Value) → Act) (E : World → World → Prop) (B : World → Prop) (V : Nat → Value → World → Prop) (vs0 : Nat → Value) (ha : fr vs0 = a) (hB : B w.drew)
    (hBE : ∀ w w', B w → E w w' → B w') (hVE : ∀ k v w w', B w → V k v w → E w w' → V k v w')
    (step : ∀ i o, ops[i]? = some o → ∀ vs w, B w → (∀ k, anc ops ops.size i k = true → V k (vs k) w) → ∀ K : Act → World → Prop,
      Shut (∀ v w', E w w' → V i v w' → K (fr (upd vs i v)) w') →
      if Region.wanted o (yielded ops (fr vs).tmps) = true then Oper.wp P o (fr vs) w K Q else K ((fr vs).put o.dst undef) w)
    (fin : ∀ vs w, B w → (∀ i, i < ops.size → V i (vs i) w) → Q .normal (fr vs) w) : (Code.region id ops true).wp P Q a w :=
  wp_region_each hm he fr B (fun k vs w => V k (vs k) w) vs0 ha hB
    (fun i o ho vs w hB hd K hK => step i o ho vs w hB hd K (fun v w' hE hv => hK v w' (hBE w w' hB hE) (by rw [upd_self]; exact hv)
      (fun j hj _ h => by rw [upd_ne _ _ _ _ hj]; exact hVE j _ w w' hB h hE)))
    fin
/-- A state into whose temporaries the region's values are put. -/
def puts : List Oper → Nat → (Nat → Value) → Act → Act
  | [], _, _, a => a
  | o :: os, i, vs, a => puts os (i + 1) vs (a.put o.dst (vs i))
def dsts (os : List Oper) : List Tmp := os.filterMap (·.dst)
def nodupB : List Nat → Bool
  | [] => true
  | x :: xs => !xs.contains x && nodupB xs
theorem puts_put_ne : ∀ (os : List Oper) (i : Nat) (vs : Nat → Value) (a : Act) (d : Option Tmp) (v : Value), (∀ t, d = some t → t ∉ dsts os) →
    (puts os i vs a).put d v = puts os i vs (a.put d v)
  | [], _, _, _, _, _, _ => rfl
  | o :: os, i, vs, a, d, v, h => by
    unfold puts
    rw [puts_put_ne os (i + 1) vs _ d v (fun t ht hm => h t ht (by
      unfold dsts at *
      rw [List.filterMap_cons]
      split
      · exact hm
      · exact List.mem_cons_of_mem _ hm))]
    congr 1
    refine Act.put_comm a _ _ fun t ht he => ?_
    refine h t (by rw [he]) ?_
    unfold dsts
    rw [List.filterMap_cons, ht]
    exact List.mem_cons_self ..
theorem put_put (a : Act) (d : Option Tmp) (u v : Value) : (a.put d u).put d v = a.put d v := by
  cases d with
  | none => rfl
  | some t => simp [Act.put]
theorem puts_upd : ∀ (os : List Oper) (i j : Nat) (o : Oper) (vs : Nat → Value) (v : Value) (a : Act), nodupB (dsts os) = true → os[j]? = some o →
    (puts os i vs a).put o.dst v = puts os i (upd vs (i + j) v) a
  | [], _, _, _, _, _, _, _, h => by simp at h
  | o' :: os, i, j, o, vs, v, a, hn, h => by
    have hn' : nodupB (dsts os) = true := by
      unfold dsts at hn ⊢
      rw [List.filterMap_cons] at hn
      split at hn
      · exact hn
      · unfold nodupB at hn; rw [Bool.and_eq_true] at hn; exact hn.2
    cases j with
    | zero =>
      simp only [List.getElem?_cons_zero, Option.some.injEq] at h
      subst h
      unfold puts
      have e0 : i + 0 = i := rfl
      rw [e0, upd_self]
      have e : ∀ (a : Act), puts os (i + 1) (upd vs i v) a = puts os (i + 1) vs a := by
        intro a
        have : ∀ (os : List Oper) (k : Nat) (a : Act), i < k → puts os k (upd vs i v) a = puts os k vs a := by
          intro os
          induction os with
          | nil => intros; rfl
          | cons x xs ih =>
            intro k a hk
            unfold puts
            rw [upd_ne vs i v k (by omega)]
            exact ih (k + 1) _ (by omega)
        exact this os (i + 1) a (by omega)
      rw [e]
      rw [puts_put_ne os (i + 1) vs _ o'.dst v (fun t ht hm => by
        unfold dsts at hn hm
        rw [List.filterMap_cons, ht] at hn
        unfold nodupB at hn
        rw [Bool.and_eq_true] at hn
        have := hn.1
        simp at this
        simp at hm
        obtain ⟨x, hx, hxe⟩ := hm
        exact this x hx hxe)]
      rw [put_put]
    | succ j =>
      simp only [List.getElem?_cons_succ] at h
      unfold puts
      rw [puts_upd os (i + 1) j o vs v _ hn' h]
      rw [upd_ne vs (i + (j + 1)) v i (by omega)]
      rw [show i + 1 + j = i + (j + 1) by omega]
/-- What the temporaries hold before the region. -/
def held (os : List Oper) (a : Act) : Nat → Value := fun i => match os[i]? with | some o => (match o.dst with | some d => a.tmps.getD d undef | none => undef) | none => undef
theorem put_same (a : Act) (d : Option Tmp) : a.put d (match d with | some d => a.tmps.getD d undef | none => undef) = a := by
  cases d with
  | none => rfl
  | some t =>
    unfold Act.put
    simp only
    have : a.tmps.setIfInBounds t (a.tmps.getD t undef) = a.tmps := by
      apply Array.ext_getElem?
      intro i
      rw [Array.getElem?_setIfInBounds]
      split
      · rename_i h
        subst h
        split
        · rename_i h; simp [h]
        · rename_i h; simp at h; simp [Array.getElem?_eq_none h]
      · rfl
    rw [this]
theorem puts_held : ∀ (os : List Oper) (i : Nat) (vs : Nat → Value) (a : Act), (∀ j o, os[j]? = some o → vs (i + j) = (match o.dst with | some d => a.tmps.getD d undef | none => undef)) → puts os i vs a = a
  | [], _, _, _, _ => rfl
  | o :: os, i, vs, a, h => by
    unfold puts
    have h0 := h 0 o rfl
    rw [Nat.add_zero] at h0
    rw [h0, put_same]
    refine puts_held os (i + 1) vs a fun j o' ho' => ?_
    have := h (j + 1) o' (by simpa using ho')
    rw [← this]; congr 1; omega
/-- Each of the operations. -/
def Each (ops : Array Oper) (S : Nat → Oper → Prop) : List Oper → Nat → Prop
  | [], _ => True
  | o :: os, i => S i o ∧ Each ops S os (i + 1)
theorem Each.at {S : Nat → Oper → Prop} : ∀ (os : List Oper) (i : Nat), Each ops S os i → ∀ j o, os[j]? = some o → S (i + j) o
  | [], _, _, _, _, h => by simp at h
  | o' :: os, i, h, j, o, ho => by
    cases j with
    | zero =>
      simp only [List.getElem?_cons_zero, Option.some.injEq] at ho
      subst ho; exact h.1
    | succ j =>
      simp only [List.getElem?_cons_succ] at ho
      have := Each.at os (i + 1) h.2 j o ho
      rwa [show i + 1 + j = i + (j + 1) by omega] at this
/-- A claim on a value lasts, whatever is added to memory. -/
def Stays (R : Value → World → Prop) : Prop := ∀ v w w', R v w → Below w.heap.size w w' → R v w'
/-- What an operation leaves: a value of which something holds; or something holds now of another one's value. -/
inductive Cl
  | any
  | own (R : Value → World → Prop) (h : Stays R)
  | at (j : Nat) (R : Value → World → Prop) (h : Stays R)
def Cl.holds (i : Nat) (vs : Nat → Value) (w : World) : Cl → Prop
  | .any => True
  | .own R _ => R (vs i) w
  | .at j R _ => R (vs j) w
def Cl.looks : Cl → Option Nat
  | .at j _ _ => some j
  | _ => none
theorem Cl.below {i : Nat} {vs : Nat → Value} {w w' : World} (hb : Below w.heap.size w w') : ∀ c : Cl, c.holds i vs w → c.holds i vs w'
  | .any, _ => trivial
  | .own _ h, x => h _ _ _ x hb
  | .at _ _ h, x => h _ _ _ x hb
theorem Cl.upd_ne {k i : Nat} {vs : Nat → Value} {v : Value} {w : World} (hk : k ≠ i) : ∀ c : Cl, c.looks ≠ some i → c.holds k vs w → c.holds k (upd vs i v) w
  | .any, _, _ => trivial
  | .own _ _, _, x => by simp only [Cl.holds, Go.Proofs.Ythffphcgkmjhbaa.upd_ne vs i v k hk] at x ⊢; exact x
  | .at j _ _, h, x => by
    have hj : j ≠ i := fun e => h (by rw [e]; rfl)
    simp only [Cl.holds, Go.Proofs.Ythffphcgkmjhbaa.upd_ne vs i v j hj] at x ⊢; exact x
def claim (cls : List Cl) (k : Nat) (vs : Nat → Value) (w : World) : Prop := (cls.getD k .any).holds k vs w
/-- What a claim looks at comes ahead of its operation. -/
def looksOk (os : List Oper) (ls : List (Option Nat)) : Bool :=
  (List.range os.length).all fun k => match ls.getD k none with | some j => anc os.toArray os.length k j | none => true
theorem looksOk_spec {os : List Oper} {cls : List Cl} (h : looksOk os (cls.map Cl.looks) = true) {k j : Nat} (hk : k < os.length) (hj : (cls.getD k .any).looks = some j) : anc os.toArray os.length k j = true := by
  unfold looksOk at h
  have := List.all_eq_true.1 h k (List.mem_range.2 hk)
  have e : (cls.map Cl.looks).getD k none = (cls.getD k .any).looks := by
    simp only [List.getD, List.getElem?_map]
    cases cls[k]? <;> rfl
  rw [e, hj] at this
  exact this
def isPtr (v : Value) (b : Nat) : Prop := v = .pointer (some ⟨b, 0, none⟩)
/-- One operation: it leaves a value that is as it should be; whatever is known lasts: since nothing that stood is touched (hK; hA where a new box is made), or for each by itself (hL). B holds all along; B0 till an operation of ST has come up. -/
def StepAt (P : Program) (Q : Exit → Act → World → Prop) (os : List Oper) (a : Act) (B : World → Prop) (ST : List Nat) (B0 : World → Prop) (cls : List Cl) (AL : List Nat) (i : Nat) (o : Oper) : Prop :=
  ∀ vs w, B w → ((ST.all fun s => s == i || anc os.toArray os.length s i) = true → B0 w) → (∀ k, anc os.toArray os.length i k = true → claim cls k vs w) →
    (∀ j k, j ≠ k → (AL.contains j && AL.contains k && anc os.toArray os.length i j && anc os.toArray os.length i k) = true → vs j ≠ vs k) →
    (∀ k, (k == i || anc os.toArray os.length k i) = true → vs k = held os a k) → ∀ K : Act → World → Prop,
    Shut (AL.contains i = false → ∀ v w', Below w.heap.size w w' → claim cls i (upd vs i v) w' → K ((puts os 0 vs a).put o.dst v) w') →
    Shut (∀ b w', Below w.heap.size w w' → w.heap.size ≤ b → claim cls i (upd vs i (.pointer (some ⟨b, 0, none⟩))) w' → K ((puts os 0 vs a).put o.dst (.pointer (some ⟨b, 0, none⟩))) w') →
    Shut (AL.contains i = false → ∀ v w', B w' → (ST.contains i = false → B0 w') → claim cls i (upd vs i v) w' → (∀ j, j ≠ i → anc os.toArray os.length j i = false → claim cls j vs w → claim cls j vs w') → K ((puts os 0 vs a).put o.dst v) w') →
    if Region.wanted o (yielded os.toArray (puts os 0 vs a).tmps) = true then Oper.wp P o (puts os 0 vs a) w K Q else K ((puts os 0 vs a).put o.dst undef) w
theorem wp_region_cl {os : List Oper} {id : Nat} {a : Act} {w : World} (B : World → Prop) (ST : List Nat) (B0 : World → Prop) (cls : List Cl) (AL : List Nat)
    (hm : P.follows .mixedOrders = true) (he : earlier os.toArray = true) (hn : nodupB (dsts os) = true) (hU : looksOk os (cls.map Cl.looks) = true) (hB : B w.drew) (hB0 : B0 w.drew)
    (hBE : ∀ w w', B w → Below w.heap.size w w' → B w') (hBE0 : ∀ w w', B w → B0 w → Below w.heap.size w w' → B0 w')
    (hAL : ∀ k vs w, AL.contains k = true → claim cls k vs w → ∃ b, isPtr (vs k) b ∧ b < w.heap.size)
    (step : Each os.toArray (StepAt P Q os a B ST B0 cls AL) os 0)
    (fin : ∀ vs w, B w → (∀ i, i < os.length → claim cls i vs w) → (∀ j k, j ≠ k → j < os.length → k < os.length → (AL.contains j && AL.contains k) = true → vs j ≠ vs k) → Q .normal (puts os 0 vs a) w) :
    (Code.region id os.toArray true).wp P Q a w := by
  have hsz : os.toArray.size = os.length := by simp
  refine wp_region_any hm ?_
  refine wpAny_inv he (fun listed a' w => ∃ vs, a' = puts os 0 vs a ∧ B w ∧ ((∀ s, ST.contains s = true → listed.getD s false = false) → B0 w) ∧ (∀ i, listed.getD i false = true → claim cls i vs w) ∧ (∀ i, listed.getD i false = false → vs i = held os a i) ∧
    (∀ j k, j ≠ k → (AL.contains j && AL.contains k) = true → listed.getD j false = true → listed.getD k false = true → vs j ≠ vs k)) ?_ ?_ _ _ _ _ (by simp) ?_ (by simp)
    ⟨held os a, ?_, hB, fun _ => hB0, ?_, fun _ _ => rfl, ?_⟩
  · rintro listed a' w hs hc ⟨vs, rfl, hB, hS, hV, hold, hne⟩ i hi
    obtain ⟨h1, o, ho, hdep⟩ := mem_ready.1 hi
    have hlt : i < os.toArray.size := (Array.getElem?_eq_some_iff.1 ho).1
    have hl : i < listed.size := by omega
    have h2 : listed.getD i false = false := by simp [hl] at h1 ⊢; exact h1
    have ho' : os[i]? = some o := by simpa using ho
    have hanc : ∀ k, anc os.toArray os.length i k = true → listed.getD k false = true := fun k hk => anc_listed hc _ i k (fun o' ho'' => by
      rw [ho] at ho''
      obtain rfl := Option.some.inj ho''
      exact hdep) hk
    have hnot : ∀ j, listed.getD j false = true → anc os.toArray os.length j i = false := fun j hj => by
      cases ha : anc os.toArray os.length j i with
      | false => rfl
      | true =>
        have := anc_listed hc _ j i (fun o' ho' => hc j o' ho' hj) ha
        rw [h2] at this; cases this
    have hlooks : ∀ j, listed.getD j false = true → (cls.getD j .any).looks ≠ some i := fun j hj e => by
      have hjl : j < os.length := by
        have hjs : j < listed.size := by
          rcases Nat.lt_or_ge j listed.size with h' | h'
          · exact h'
          · rw [Array.getD_eq_getD_getElem?, Array.getElem?_eq_none h'] at hj; cases hj
        omega
      have := looksOk_spec hU hjl e
      rw [hnot j hj] at this; cases this
    have hji : ∀ j, (listed.setIfInBounds i true).getD j false = true → j ≠ i → listed.getD j false = true := fun j hj h => by
      rwa [getD_set_ne false (fun x => h x.symm)] at hj
    have hneU : ∀ v, (AL.contains i = true → ∃ b, v = .pointer (some ⟨b, 0, none⟩) ∧ w.heap.size ≤ b) →
        ∀ j k, j ≠ k → (AL.contains j && AL.contains k) = true → (listed.setIfInBounds i true).getD j false = true → (listed.setIfInBounds i true).getD k false = true → upd vs i v j ≠ upd vs i v k := by
      intro v hv j k hjk hal hj hk
      rw [Bool.and_eq_true] at hal
      by_cases h1 : j = i
      · subst h1
        have hki : k ≠ j := fun h => hjk h.symm
        rw [upd_self, upd_ne vs j v k hki]
        obtain ⟨b, rfl, hb⟩ := hv hal.1
        obtain ⟨b', e', hb'⟩ := hAL k vs w hal.2 (hV k (hji k hk hki))
        unfold isPtr at e'
        rw [e']
        intro e; simp at e; omega
      · by_cases h3 : k = i
        · subst h3
          rw [upd_self, upd_ne vs k v j h1]
          obtain ⟨b, rfl, hb⟩ := hv hal.2
          obtain ⟨b', e', hb'⟩ := hAL j vs w hal.1 (hV j (hji j hj h1))
          unfold isPtr at e'
          rw [e']
          intro e; simp at e; omega
        · rw [upd_ne vs i v j h1, upd_ne vs i v k h3]
          exact hne j k hjk (by rw [Bool.and_eq_true]; exact hal) (hji j hj h1) (hji k hk h3)
    refine wpOp_step ho (fun K hK => ?_)
    have hs1 := Each.at os 0 step i o ho'
    rw [Nat.zero_add] at hs1
    have hnst : (ST.all fun s => s == i || anc os.toArray os.length s i) = true → ∀ s, ST.contains s = true → listed.getD s false = false := by
      intro h s hs
      have h1 := List.all_eq_true.1 h s (by simpa using hs)
      rw [Bool.or_eq_true] at h1
      rcases h1 with h1 | h1
      · obtain rfl : s = i := by simpa using h1
        exact h2
      · cases hg : listed.getD s false with
        | false => rfl
        | true => rw [hnot s hg] at h1; cases h1
    have hup : (∀ s, ST.contains s = true → (listed.setIfInBounds i true).getD s false = false) → ST.contains i = false ∧ ∀ s, ST.contains s = true → listed.getD s false = false := by
      intro h
      refine ⟨?_, fun s hs => ?_⟩
      · cases hg : ST.contains i with
        | false => rfl
        | true => have := h i hg; rw [getD_self hl] at this; cases this
      · cases hg : listed.getD s false with
        | false => rfl
        | true => have := h s hs; rw [getD_set_true hg] at this; cases this
    have hholdU : ∀ v j, (listed.setIfInBounds i true).getD j false = false → upd vs i v j = held os a j := by
      intro v j hj
      have hji' : j ≠ i := fun e => by subst e; rw [getD_self hl] at hj; cases hj
      rw [upd_ne vs i v j hji']
      rw [getD_set_ne false (fun x => hji' x.symm)] at hj
      exact hold j hj
    have hholdI : ∀ k, (k == i || anc os.toArray os.length k i) = true → vs k = held os a k := by
      intro k hk
      refine hold k ?_
      rw [Bool.or_eq_true] at hk
      rcases hk with h | h
      · obtain rfl : k = i := by simpa using h
        exact h2
      · cases hg : listed.getD k false with
        | false => rfl
        | true => rw [hnot k hg] at h; cases h
    refine hs1 vs w hB (fun h => hS (hnst h)) (fun k hk => hV k (hanc k hk)) (fun j k hjk h => ?_) hholdI K (fun hal v w' hb hv => ?_) (fun b w' hb hbl hv => ?_) (fun hal v w' hB' hB0' hv hr => ?_)
    · simp only [Bool.and_eq_true] at h
      exact hne j k hjk (by rw [Bool.and_eq_true]; exact ⟨h.1.1.1, h.1.1.2⟩) (hanc j h.1.2) (hanc k h.2)
    · rw [puts_upd os 0 i o vs v a hn ho', Nat.zero_add]
      refine hK _ _ ⟨upd vs i v, rfl, hBE w w' hB hb, fun h => hBE0 w w' hB (hS (hup h).2) hb, fun j hj => ?_, hholdU _, hneU v (fun h => by rw [hal] at h; cases h)⟩
      by_cases h : j = i
      · subst h; exact hv
      · exact Cl.upd_ne h _ (hlooks j (hji j hj h)) (Cl.below hb _ (hV j (hji j hj h)))
    · rw [puts_upd os 0 i o vs _ a hn ho', Nat.zero_add]
      refine hK _ _ ⟨upd vs i _, rfl, hBE w w' hB hb, fun h => hBE0 w w' hB (hS (hup h).2) hb, fun j hj => ?_, hholdU _, hneU _ (fun h => ⟨b, rfl, hbl⟩)⟩
      by_cases h : j = i
      · subst h; exact hv
      · exact Cl.upd_ne h _ (hlooks j (hji j hj h)) (Cl.below hb _ (hV j (hji j hj h)))
    · rw [puts_upd os 0 i o vs v a hn ho', Nat.zero_add]
      refine hK _ _ ⟨upd vs i v, rfl, hB', fun h => hB0' (hup h).1, fun j hj => ?_, hholdU _, hneU v (fun h => by rw [hal] at h; cases h)⟩
      by_cases h : j = i
      · subst h; exact hv
      · exact Cl.upd_ne h _ (hlooks j (hji j hj h)) (hr j h (hnot j (hji j hj h)) (hV j (hji j hj h)))
  · rintro listed a' w hall ⟨vs, rfl, hB, hS, hV, _, hne⟩
    rw [hsz] at hall
    exact fin vs w hB (fun i hi => hV i (hall i hi)) (fun j k hjk hj hk hal => hne j k hjk hal (hall j hj) (hall k hk))
  · intro i o _ h
    rw [Array.getD_eq_getD_getElem?, Array.getElem?_replicate] at h
    split at h <;> simp at h
  · refine (puts_held os 0 _ a fun j o ho => ?_).symm
    rw [Nat.zero_add]
    unfold held
    rw [ho]
  · intro i h
    rw [Array.getD_eq_getD_getElem?, Array.getElem?_replicate] at h
    split at h <;> simp at h
  · intro j k _ _ h
    rw [Array.getD_eq_getD_getElem?, Array.getElem?_replicate] at h
    split at h <;> simp at h
/-- The same, where no operation panics. -/
theorem wp_region_calm {os : List Oper} {id : Nat} {a : Act} {w : World} (B : World → Prop) (ST : List Nat) (B0 : World → Prop) (cls : List Cl) (AL : List Nat)
    (hm : P.follows .mixedOrders = true) (he : earlier os.toArray = true) (hn : nodupB (dsts os) = true) (hU : looksOk os (cls.map Cl.looks) = true) (hB : B w.drew) (hB0 : B0 w.drew)
    (hBE : ∀ w w', B w → Below w.heap.size w w' → B w') (hBE0 : ∀ w w', B w → B0 w → Below w.heap.size w w' → B0 w')
    (hAL : ∀ k vs w, AL.contains k = true → claim cls k vs w → ∃ b, isPtr (vs k) b ∧ b < w.heap.size)
    (step : ∀ Q : Exit → Act → World → Prop, Each os.toArray (StepAt P Q os a B ST B0 cls AL) os 0)
    (fin : ∀ vs w, B w → (∀ i, i < os.length → claim cls i vs w) → (∀ j k, j ≠ k → j < os.length → k < os.length → (AL.contains j && AL.contains k) = true → vs j ≠ vs k) → Q .normal (puts os 0 vs a) w) :
    (Code.region id os.toArray true).wp P Q a w :=
  wp_region_cl B ST B0 cls AL hm he hn hU hB hB0 hBE hBE0 hAL (step Q) fin
/-- Each claim but one lasts from one world to another. -/
def KeepAll (i : Nat) (vs : Nat → Value) (w w' : World) : List Cl → Nat → Prop
  | [], _ => True
  | c :: cs, k => (k = i ∨ (c.holds k vs w → c.holds k vs w')) ∧ KeepAll i vs w w' cs (k + 1)
theorem keep_all {i : Nat} {vs : Nat → Value} {w w' : World} : ∀ {cls : List Cl} {k : Nat}, KeepAll i vs w w' cls k → ∀ j, k + j ≠ i → (cls.getD j .any).holds (k + j) vs w → (cls.getD j .any).holds (k + j) vs w'
  | [], _, _, j, _, h => by simp [Cl.holds]
  | c :: cs, k, hk, j, hj, h => by
    cases j with
    | zero => exact (hk.1.resolve_left hj) h
    | succ j =>
      have := keep_all (cls := cs) (k := k + 1) hk.2 j (by omega)
      rw [show k + 1 + j = k + (j + 1) by omega] at this
      exact this h
theorem claims_keep {i : Nat} {vs : Nat → Value} {w w' : World} {cls : List Cl} {p : Nat → Prop} (h : KeepAll i vs w w' cls 0) : ∀ j, j ≠ i → p j → claim cls j vs w → claim cls j vs w' := fun j hj _ hc => by
  have := keep_all h j (by omega)
  rw [Nat.zero_add] at this
  exact this hc
/-- A value is this one. -/
def Is (v : Value) : Cl := .own (fun u _ => u = v) (fun _ _ _ h _ => h)
theorem is_keep {v : Value} {k : Nat} {vs : Nat → Value} {w w' : World} (h : (Is v).holds k vs w) : (Is v).holds k vs w' := h
end
end Go.Proofs.Ythffphcgkmjhbaa
