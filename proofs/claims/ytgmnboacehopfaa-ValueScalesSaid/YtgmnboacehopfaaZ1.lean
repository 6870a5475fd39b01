/-
  Regions whose order is left open, by one claim for each operation: what it leaves, in whatever order the others come up.
-/
/-
  Small facts for the walks of this seat: worlds, Add64, wide numbers.
-/
/-
  Blocks of cells by their whole contents; worlds in which one old block alone may have turned.
-/
/-
  Plain facts on whole numbers that are kept as lists of pieces of 16 bits.
-/
/-
  The reference's whole numbers, each function by its contract. First part: how they lie in memory; trim.
-/
/-
  The reference's whole numbers, each function by its contract. Second part: sizes, Minus, OfU.
-/
import Derived.OrdersHeld
import Derived.Deep.RegionHeld
import Derived.Below
import Derived.Test.YtgmnboacehopfaaRows
import Derived.WalkKit
import Derived.WalkSpells
import Derived.Lib.Hide
import Derived.Laws.Externs
import Derived.Deep.RegionHeld3
import Derived.Deep.QuietTactic
import Derived.BigQuiet
import Derived.Deep.Light
import Derived.Handy
import Derived.Shelf.Bits.Mul64
import Derived.Deep.LoopGhost
import Derived.Deep.DeepCutAuto
import Derived.Deep.CutBlock
import Derived.Deep.CutRange
namespace Go.Proofs.Ytgmnboacehopfaa
open Go Go.RowKit
section
variable {P : Program} {ops : Array Oper} {Q : Exit → Act → World → Prop} {md : Region.Mode}

/-- Whatever an operation waits for stands ahead of it in the text. -/
def earlier (ops : Array Oper) : Bool := (List.range ops.size).all fun i => ((ops[i]?).map fun o => o.after.all fun e => !Region.binds .any e || decide (e.on < i)).getD true
theorem earlier_spec (h : earlier ops = true) {i : Nat} {o : Oper} (ho : ops[i]? = some o) {e : Edge} (he : e ∈ o.after) (hb : Region.binds .any e = true) : e.on < i := by
  have hlt : i < ops.size := (Array.getElem?_eq_some_iff.1 ho).1
  unfold earlier at h
  have h1 := List.all_eq_true.1 h i (List.mem_range.2 hlt)
  rw [ho] at h1
  simp only [Option.map_some, Option.getD_some, Array.all_eq_true_iff_forall_mem, Bool.or_eq_true, decide_eq_true_eq] at h1
  exact (h1 e he).resolve_left (by simp [hb])
/-- Does operation i wait for operation k, through others too? -/
def anc (ops : Array Oper) : Nat → Nat → Nat → Bool
  | 0, _, _ => false
  | f + 1, i, k => ((ops[i]?).map fun o => o.after.toList.any fun e => Region.binds .any e && (e.on == k || anc ops f e.on k)).getD false
/-- Whatever has come up, all for which it waits has come up. -/
def closed (ops : Array Oper) (listed : Array Bool) : Prop :=
  ∀ i o, ops[i]? = some o → listed.getD i false = true → ∀ e ∈ o.after, Region.binds .any e = true → listed.getD e.on false = true
theorem anc_listed {listed : Array Bool} (hc : closed ops listed) : ∀ (f i k : Nat),
    (∀ o, ops[i]? = some o → ∀ e ∈ o.after, Region.binds .any e = true → listed.getD e.on false = true) → anc ops f i k = true → listed.getD k false = true
  | 0, _, _, _, h => by simp [anc] at h
  | f + 1, i, k, hd, h => by
    unfold anc at h
    cases ho : ops[i]? with
    | none => rw [ho] at h; simp at h
    | some o =>
      rw [ho] at h
      simp only [Option.map_some, Option.getD_some, List.any_eq_true, Array.mem_toList_iff, Bool.and_eq_true, Bool.or_eq_true, beq_iff_eq] at h
      obtain ⟨e, he, hb, h⟩ := h
      have hl := hd o ho e he hb
      rcases h with rfl | h
      · exact hl
      · exact anc_listed hc f e.on k (fun o' ho' => hc e.on o' ho' hl) h
theorem all_listed (h : earlier ops = true) {listed : Array Bool} (hs : listed.size = ops.size) (hr : Region.ready .any ops listed = []) :
    ∀ i, i < ops.size → listed.getD i false = true := by
  intro i
  induction i using Nat.strongRecOn with
  | ind i ih =>
    intro hi
    cases hg : listed.getD i false with
    | true => rfl
    | false =>
      have ho : ops[i]? = some ops[i] := Array.getElem?_eq_getElem hi
      have h1 : i ∈ Region.ready .any ops listed := by
        rw [mem_ready]
        refine ⟨?_, ops[i], ho, fun e he hb => ?_⟩
        · have hl : i < listed.size := by omega
          simp [hl] at hg ⊢
          exact hg
        · have := earlier_spec h ho he hb
          exact ih e.on this (by omega)
      rw [hr] at h1
      cases h1
def upd (vs : Nat → Value) (i : Nat) (v : Value) : Nat → Value := fun k => if k = i then v else vs k
theorem upd_self (vs : Nat → Value) (i : Nat) (v : Value) : upd vs i v i = v := by simp [upd]
theorem upd_ne (vs : Nat → Value) (i : Nat) (v : Value) (k : Nat) (h : k ≠ i) : upd vs i v k = vs k := by simp [upd, h]
theorem set_size (listed : Array Bool) (i : Nat) : (listed.setIfInBounds i true).size = listed.size := by simp
theorem getD_self {listed : Array Bool} {i : Nat} (h : i < listed.size) : (listed.setIfInBounds i true).getD i false = true := by simp [h]
theorem wpAny_inv (he : earlier ops = true) (I : Array Bool → Act → World → Prop)
    (step : ∀ listed a w, listed.size = ops.size → closed ops listed → I listed a w → ∀ i, i ∈ Region.ready .any ops listed → wpOp P ops Q i (I (listed.setIfInBounds i true)) a w)
    (fin : ∀ listed a w, (∀ i, i < ops.size → listed.getD i false = true) → I listed a w → Q .normal a w) :
    ∀ (fuel : Nat) (listed : Array Bool) (a : Act) (w : World), listed.size = ops.size → closed ops listed → listed.toList.count false ≤ fuel → I listed a w → wpAny P .any ops Q fuel listed a w
  | 0, listed, a, w, hs, hc, hf, hI => by
    have h0 : ∀ i, i < ops.size → listed.getD i false = true := by
      intro i hi
      have hl : i < listed.size := by omega
      have h1 := List.count_eq_zero.1 (Nat.le_zero.1 hf)
      cases hg : listed[i] with
      | true => simp [hl, hg]
      | false => exact absurd (by rw [← hg, ← Array.getElem_toList]; exact List.getElem_mem _) h1
    refine ⟨?_, fin listed a w h0 hI⟩
    rw [List.eq_nil_iff_forall_not_mem]
    intro i hi
    obtain ⟨h1, o, ho, _⟩ := mem_ready.1 hi
    have hlt : i < ops.size := (Array.getElem?_eq_some_iff.1 ho).1
    have h2 := h0 i hlt
    have hl : i < listed.size := by omega
    simp [hl] at h1 h2
    rw [h1] at h2; cases h2
  | fuel + 1, listed, a, w, hs, hc, hf, hI => by
    refine ⟨fun hr => fin listed a w (all_listed he hs hr) hI, fun i hi => ?_⟩
    obtain ⟨h1, o, ho, hdep⟩ := mem_ready.1 hi
    have hlt : i < ops.size := (Array.getElem?_eq_some_iff.1 ho).1
    have hl : i < listed.size := by omega
    refine wpOp_mono (fun a' w' h => wpAny_inv he I step fin fuel _ a' w' (by rw [set_size]; exact hs) ?_ ?_ h) (step listed a w hs hc hI i hi)
    · intro j oj hj hjl e hej hb
      by_cases hij : j = i
      · subst hij
        rw [ho] at hj
        obtain rfl := Option.some.inj hj
        exact getD_set_true (hdep e hej hb)
      · rw [getD_set_ne false (fun h => hij h.symm)] at hjl
        exact getD_set_true (hc j oj hj hjl e hej hb)
    · have h2 : listed[i] = false := by simpa [hl] using h1
      have h3 : (listed.setIfInBounds i true).toList.count false + 1 = listed.toList.count false := by
        rw [Array.toList_setIfInBounds, List.count_set (by simpa using hl)]
        have h4 : listed.toList[i]'(by simpa using hl) = false := by simpa using h2
        rw [h4]
        have h5 : 0 < listed.toList.count false := List.count_pos_iff.2 (by rw [← h4]; exact List.getElem_mem _)
        simp only [beq_self_eq_true, if_true]
        have h6 : (true == false) = false := rfl
        rw [h6]
        simp only [Bool.false_eq_true, if_false]
        omega
      omega
/-- The state of a region: which temporaries hold what; what stands in memory. -/
theorem wp_region_each {id : Nat} {a : Act} {w : World} (hm : P.follows .mixedOrders = true) (he : earlier ops = true)
    (fr : (Nat → Value) → Act) (B : World → Prop) (V : Nat → (Nat → Value) → World → Prop) (vs0 : Nat → Value) (ha : fr vs0 = a) (hB : B w.drew)
    (step : ∀ i o, ops[i]? = some o → ∀ vs w, B w → (∀ k, anc ops ops.size i k = true → V k vs w) → ∀ K : Act → World → Prop,
      Shut (∀ v w', B w' → V i (upd vs i v) w' → (∀ j, j ≠ i → anc ops ops.size j i = false → V j vs w → V j (upd vs i v) w') → K (fr (upd vs i v)) w') →
      if Region.wanted o (yielded ops (fr vs).tmps) = true then Oper.wp P o (fr vs) w K Q else K ((fr vs).put o.dst undef) w)
    (fin : ∀ vs w, B w → (∀ i, i < ops.size → V i vs w) → Q .normal (fr vs) w) : (Code.region id ops true).wp P Q a w := by
  refine wp_region_any hm ?_
  refine wpAny_inv he (fun listed a w => ∃ vs, a = fr vs ∧ B w ∧ ∀ i, listed.getD i false = true → V i vs w) ?_ ?_ _ _ _ _ (by simp) ?_ (by simp) ⟨vs0, ha.symm, hB, ?_⟩
  · rintro listed a w hs hc ⟨vs, rfl, hB, hV⟩ i hi
    obtain ⟨h1, o, ho, hdep⟩ := mem_ready.1 hi
    have hlt : i < ops.size := (Array.getElem?_eq_some_iff.1 ho).1
    have hl : i < listed.size := by omega
    have h2 : listed.getD i false = false := by simp [hl] at h1 ⊢; exact h1
    refine wpOp_step ho (fun K hK => ?_)
    refine step i o ho vs w hB (fun k hk => hV k (anc_listed hc _ i k (fun o' ho' => ?_) hk)) K (fun v w' hB' hv hrest => hK _ _ ⟨upd vs i v, rfl, hB', fun j hj => ?_⟩)
    · rw [ho] at ho'
      obtain rfl := Option.some.inj ho'
      exact hdep
    · by_cases hji : j = i
      · subst hji; exact hv
      · rw [getD_set_ne false (fun h => hji h.symm)] at hj
        refine hrest j hji ?_ (hV j hj)
        cases ha : anc ops ops.size j i with
        | false => rfl
        | true =>
          have := anc_listed hc _ j i (fun o' ho' => hc j o' ho' hj) ha
          rw [h2] at this; cases this
  · rintro listed a w hall ⟨vs, rfl, hB, hV⟩
    exact fin vs w hB (fun i hi => hV i (hall i hi))
  · intro i o _ h
    rw [Array.getD_eq_getD_getElem?, Array.getElem?_replicate] at h
    split at h <;> simp at h
  · intro i h
    rw [Array.getD_eq_getD_getElem?, Array.getElem?_replicate] at h
    split at h <;> simp at h
/-- The same, where what is known of a value hangs on no other one, and lasts. -/
theorem wp_region_vals {id : Nat} {a : Act} {w : World} (hm : P.follows .mixedOrders = true) (he : earlier ops = true)
    (fr : (Nat → Value) → Act) (E : World → World → Prop) (B : World → Prop) (V : Nat → Value → World → Prop) (vs0 : Nat → Value) (ha : fr vs0 = a) (hB : B w.drew)
    (hBE : ∀ w w', B w → E w w' → B w') (hVE : ∀ k v w w', B w → V k v w → E w w' → V k v w')
    (step : ∀ i o, ops[i]? = some o → ∀ vs w, B w → (∀ k, anc ops ops.size i k = true → V k (vs k) w) → ∀ K : Act → World → Prop,
      Shut (∀ v w', E w w' → V i v w' → K (fr (upd vs i v)) w') →
      if Region.wanted o (yielded ops (fr vs).tmps) = true then Oper.wp P o (fr vs) w K Q else K ((fr vs).put o.dst undef) w)
    (fin : ∀ vs w, B w → (∀ i, i < ops.size → V i (vs i) w) → Q .normal (fr vs) w) : (Code.region id ops true).wp P Q a w :=
  wp_region_each hm he fr B (fun k vs w => V k (vs k) w) vs0 ha hB
    (fun i o ho vs w hB hd K hK => step i o ho vs w hB hd K (fun v w' hE hv => hK v w' (hBE w w' hB hE) (by rw [upd_self]; exact hv)
      (fun j hj _ h => by rw [upd_ne _ _ _ _ hj]; exact hVE j _ w w' hB h hE)))
    fin
/-- A state into whose temporaries the region's values are put. -/
def puts : List Oper → Nat → (Nat → Value) → Act → Act
  | [], _, _, a => a
  | o :: os, i, vs, a => puts os (i + 1) vs (a.put o.dst (vs i))
def dsts (os : List Oper) : List Tmp := os.filterMap (·.dst)
def nodupB : List Nat → Bool
  | [] => true
  | x :: xs => !xs.contains x && nodupB xs
theorem puts_put_ne : ∀ (os : List Oper) (i : Nat) (vs : Nat → Value) (a : Act) (d : Option Tmp) (v : Value), (∀ t, d = some t → t ∉ dsts os) →
    (puts os i vs a).put d v = puts os i vs (a.put d v)
  | [], _, _, _, _, _, _ => rfl
  | o :: os, i, vs, a, d, v, h => by
    unfold puts
    rw [puts_put_ne os (i + 1) vs _ d v (fun t ht hm => h t ht (by
      unfold dsts at *
      rw [List.filterMap_cons]
      split
      · exact hm
      · exact List.mem_cons_of_mem _ hm))]
    congr 1
    refine Act.put_comm a _ _ fun t ht he => ?_
    refine h t (by rw [he]) ?_
    unfold dsts
    rw [List.filterMap_cons, ht]
    exact List.mem_cons_self ..
theorem put_put (a : Act) (d : Option Tmp) (u v : Value) : (a.put d u).put d v = a.put d v := by
  cases d with
  | none => rfl
  | some t => simp [Act.put]
theorem puts_upd : ∀ (os : List Oper) (i j : Nat) (o : Oper) (vs : Nat → Value) (v : Value) (a : Act), nodupB (dsts os) = true → os[j]? = some o →
    (puts os i vs a).put o.dst v = puts os i (upd vs (i + j) v) a
  | [], _, _, _, _, _, _, _, h => by simp at h
  | o' :: os, i, j, o, vs, v, a, hn, h => by
    have hn' : nodupB (dsts os) = true := by
      unfold dsts at hn ⊢
      rw [List.filterMap_cons] at hn
      split at hn
      · exact hn
      · unfold nodupB at hn; rw [Bool.and_eq_true] at hn; exact hn.2
    cases j with
    | zero =>
      simp only [List.getElem?_cons_zero, Option.some.injEq] at h
      subst h
      unfold puts
      have e0 : i + 0 = i := rfl
      rw [e0, upd_self]
      have e : ∀ (a : Act), puts os (i + 1) (upd vs i v) a = puts os (i + 1) vs a := by
        intro a
        have : ∀ (os : List Oper) (k : Nat) (a : Act), i < k → puts os k (upd vs i v) a = puts os k vs a := by
          intro os
          induction os with
          | nil => intros; rfl
          | cons x xs ih =>
            intro k a hk
            unfold puts
            rw [upd_ne vs i v k (by omega)]
            exact ih (k + 1) _ (by omega)
        exact this os (i + 1) a (by omega)
      rw [e]
      rw [puts_put_ne os (i + 1) vs _ o'.dst v (fun t ht hm => by
        unfold dsts at hn hm
        rw [List.filterMap_cons, ht] at hn
        unfold nodupB at hn
        rw [Bool.and_eq_true] at hn
        have := hn.1
        simp at this
        simp at hm
        obtain ⟨x, hx, hxe⟩ := hm
        exact this x hx hxe)]
      rw [put_put]
    | succ j =>
      simp only [List.getElem?_cons_succ] at h
      unfold puts
      rw [puts_upd os (i + 1) j o vs v _ hn' h]
      rw [upd_ne vs (i + (j + 1)) v i (by omega)]
      rw [show i + 1 + j = i + (j + 1) by omega]
/-- What the temporaries hold before the region. -/
def held (os : List Oper) (a : Act) : Nat → Value := fun i => match os[i]? with | some o => (match o.dst with | some d => a.tmps.getD d undef | none => undef) | none => undef
theorem put_same (a : Act) (d : Option Tmp) : a.put d (match d with | some d => a.tmps.getD d undef | none => undef) = a := by
  cases d with
  | none => rfl
  | some t =>
    unfold Act.put
    simp only
    have : a.tmps.setIfInBounds t (a.tmps.getD t undef) = a.tmps := by
      apply Array.ext_getElem?
      intro i
      rw [Array.getElem?_setIfInBounds]
      split
      · rename_i h
        subst h
        split
        · rename_i h; simp [h]
        · rename_i h; simp at h; simp [Array.getElem?_eq_none h]
      · rfl
    rw [this]
theorem puts_held : ∀ (os : List Oper) (i : Nat) (vs : Nat → Value) (a : Act), (∀ j o, os[j]? = some o → vs (i + j) = (match o.dst with | some d => a.tmps.getD d undef | none => undef)) → puts os i vs a = a
  | [], _, _, _, _ => rfl
  | o :: os, i, vs, a, h => by
    unfold puts
    have h0 := h 0 o rfl
    rw [Nat.add_zero] at h0
    rw [h0, put_same]
    refine puts_held os (i + 1) vs a fun j o' ho' => ?_
    have := h (j + 1) o' (by simpa using ho')
    rw [← this]; congr 1; omega
/-- Each of the operations. -/
def Each (ops : Array Oper) (S : Nat → Oper → Prop) : List Oper → Nat → Prop
  | [], _ => True
  | o :: os, i => S i o ∧ Each ops S os (i + 1)
theorem Each.at {S : Nat → Oper → Prop} : ∀ (os : List Oper) (i : Nat), Each ops S os i → ∀ j o, os[j]? = some o → S (i + j) o
  | [], _, _, _, _, h => by simp at h
  | o' :: os, i, h, j, o, ho => by
    cases j with
    | zero =>
      simp only [List.getElem?_cons_zero, Option.some.injEq] at ho
      subst ho; exact h.1
    | succ j =>
      simp only [List.getElem?_cons_succ] at ho
      have := Each.at os (i + 1) h.2 j o ho
      rwa [show i + 1 + j = i + (j + 1) by omega] at this
/-- A claim on a value lasts, whatever is added to memory. -/
def Stays (R : Value → World → Prop) : Prop := ∀ v w w', R v w → Below w.heap.size w w' → R v w'
/-- What an operation leaves: a value of which something holds; or something holds now of another one's value. -/
inductive Cl
  | any
  | own (R : Value → World → Prop) (h : Stays R)
  | at (j : Nat) (R : Value → World → Prop) (h : Stays R)
def Cl.holds (i : Nat) (vs : Nat → Value) (w : World) : Cl → Prop
  | .any => True
  | .own R _ => R (vs i) w
  | .at j R _ => R (vs j) w
def Cl.looks : Cl → Option Nat
  | .at j _ _ => some j
  | _ => none
theorem Cl.below {i : Nat} {vs : Nat → Value} {w w' : World} (hb : Below w.heap.size w w') : ∀ c : Cl, c.holds i vs w → c.holds i vs w'
  | .any, _ => trivial
  | .own _ h, x => h _ _ _ x hb
  | .at _ _ h, x => h _ _ _ x hb
theorem Cl.upd_ne {k i : Nat} {vs : Nat → Value} {v : Value} {w : World} (hk : k ≠ i) : ∀ c : Cl, c.looks ≠ some i → c.holds k vs w → c.holds k (upd vs i v) w
  | .any, _, _ => trivial
  | .own _ _, _, x => by simp only [Cl.holds, Go.Proofs.Ytgmnboacehopfaa.upd_ne vs i v k hk] at x ⊢; exact x
  | .at j _ _, h, x => by
    have hj : j ≠ i := fun e => h (by rw [e]; rfl)
    simp only [Cl.holds, Go.Proofs.Ytgmnboacehopfaa.upd_ne vs i v j hj] at x ⊢; exact x
def claim (cls : List Cl) (k : Nat) (vs : Nat → Value) (w : World) : Prop := (cls.getD k .any).holds k vs w
/-- What a claim looks at comes ahead of its operation. -/
def looksOk (os : List Oper) (ls : List (Option Nat)) : Bool :=
  (List.range os.length).all fun k => match ls.getD k none with | some j => anc os.toArray os.length k j | none => true
theorem looksOk_spec {os : List Oper} {cls : List Cl} (h : looksOk os (cls.map Cl.looks) = true) {k j : Nat} (hk : k < os.length) (hj : (cls.getD k .any).looks = some j) : anc os.toArray os.length k j = true := by
  unfold looksOk at h
  have := List.all_eq_true.1 h k (List.mem_range.2 hk)
  have e : (cls.map Cl.looks).getD k none = (cls.getD k .any).looks := by
    simp only [List.getD, List.getElem?_map]
    cases cls[k]? <;> rfl
  rw [e, hj] at this
  exact this
def isPtr (v : Value) (b : Nat) : Prop := v = .pointer (some ⟨b, 0, none⟩)
/-- One operation: it leaves a value that is as it should be; whatever is known lasts: since nothing that stood is touched (hK; hA where a new box is made), or for each by itself (hL). B holds all along; B0 till an operation of ST has come up. -/
def StepAt (P : Program) (Q : Exit → Act → World → Prop) (os : List Oper) (a : Act) (B : World → Prop) (ST : List Nat) (B0 : World → Prop) (cls : List Cl) (AL : List Nat) (i : Nat) (o : Oper) : Prop :=
  ∀ vs w, B w → ((ST.all fun s => s == i || anc os.toArray os.length s i) = true → B0 w) → (∀ k, anc os.toArray os.length i k = true → claim cls k vs w) →
    (∀ j k, j ≠ k → (AL.contains j && AL.contains k && anc os.toArray os.length i j && anc os.toArray os.length i k) = true → vs j ≠ vs k) →
    (∀ k, (k == i || anc os.toArray os.length k i) = true → vs k = held os a k) → ∀ K : Act → World → Prop,
    Shut (AL.contains i = false → ∀ v w', Below w.heap.size w w' → claim cls i (upd vs i v) w' → K ((puts os 0 vs a).put o.dst v) w') →
    Shut (∀ b w', Below w.heap.size w w' → w.heap.size ≤ b → claim cls i (upd vs i (.pointer (some ⟨b, 0, none⟩))) w' → K ((puts os 0 vs a).put o.dst (.pointer (some ⟨b, 0, none⟩))) w') →
    Shut (AL.contains i = false → ∀ v w', B w' → (ST.contains i = false → B0 w') → claim cls i (upd vs i v) w' → (∀ j, j ≠ i → anc os.toArray os.length j i = false → claim cls j vs w → claim cls j vs w') → K ((puts os 0 vs a).put o.dst v) w') →
    if Region.wanted o (yielded os.toArray (puts os 0 vs a).tmps) = true then Oper.wp P o (puts os 0 vs a) w K Q else K ((puts os 0 vs a).put o.dst undef) w
theorem wp_region_cl {os : List Oper} {id : Nat} {a : Act} {w : World} (B : World → Prop) (ST : List Nat) (B0 : World → Prop) (cls : List Cl) (AL : List Nat)
    (hm : P.follows .mixedOrders = true) (he : earlier os.toArray = true) (hn : nodupB (dsts os) = true) (hU : looksOk os (cls.map Cl.looks) = true) (hB : B w.drew) (hB0 : B0 w.drew)
    (hBE : ∀ w w', B w → Below w.heap.size w w' → B w') (hBE0 : ∀ w w', B w → B0 w → Below w.heap.size w w' → B0 w')
    (hAL : ∀ k vs w, AL.contains k = true → claim cls k vs w → ∃ b, isPtr (vs k) b ∧ b < w.heap.size)
    (step : Each os.toArray (StepAt P Q os a B ST B0 cls AL) os 0)
    (fin : ∀ vs w, B w → (∀ i, i < os.length → claim cls i vs w) → (∀ j k, j ≠ k → j < os.length → k < os.length → (AL.contains j && AL.contains k) = true → vs j ≠ vs k) → Q .normal (puts os 0 vs a) w) :
    (Code.region id os.toArray true).wp P Q a w := by
  have hsz : os.toArray.size = os.length := by simp
  refine wp_region_any hm ?_
  refine wpAny_inv he (fun listed a' w => ∃ vs, a' = puts os 0 vs a ∧ B w ∧ ((∀ s, ST.contains s = true → listed.getD s false = false) → B0 w) ∧ (∀ i, listed.getD i false = true → claim cls i vs w) ∧ (∀ i, listed.getD i false = false → vs i = held os a i) ∧
    (∀ j k, j ≠ k → (AL.contains j && AL.contains k) = true → listed.getD j false = true → listed.getD k false = true → vs j ≠ vs k)) ?_ ?_ _ _ _ _ (by simp) ?_ (by simp)
    ⟨held os a, ?_, hB, fun _ => hB0, ?_, fun _ _ => rfl, ?_⟩
  · rintro listed a' w hs hc ⟨vs, rfl, hB, hS, hV, hold, hne⟩ i hi
    obtain ⟨h1, o, ho, hdep⟩ := mem_ready.1 hi
    have hlt : i < os.toArray.size := (Array.getElem?_eq_some_iff.1 ho).1
    have hl : i < listed.size := by omega
    have h2 : listed.getD i false = false := by simp [hl] at h1 ⊢; exact h1
    have ho' : os[i]? = some o := by simpa using ho
    have hanc : ∀ k, anc os.toArray os.length i k = true → listed.getD k false = true := fun k hk => anc_listed hc _ i k (fun o' ho'' => by
      rw [ho] at ho''
      obtain rfl := Option.some.inj ho''
      exact hdep) hk
    have hnot : ∀ j, listed.getD j false = true → anc os.toArray os.length j i = false := fun j hj => by
      cases ha : anc os.toArray os.length j i with
      | false => rfl
      | true =>
        have := anc_listed hc _ j i (fun o' ho' => hc j o' ho' hj) ha
        rw [h2] at this; cases this
    have hlooks : ∀ j, listed.getD j false = true → (cls.getD j .any).looks ≠ some i := fun j hj e => by
      have hjl : j < os.length := by
        have hjs : j < listed.size := by
          rcases Nat.lt_or_ge j listed.size with h' | h'
          · exact h'
          · rw [Array.getD_eq_getD_getElem?, Array.getElem?_eq_none h'] at hj; cases hj
        omega
      have := looksOk_spec hU hjl e
      rw [hnot j hj] at this; cases this
    have hji : ∀ j, (listed.setIfInBounds i true).getD j false = true → j ≠ i → listed.getD j false = true := fun j hj h => by
      rwa [getD_set_ne false (fun x => h x.symm)] at hj
    have hneU : ∀ v, (AL.contains i = true → ∃ b, v = .pointer (some ⟨b, 0, none⟩) ∧ w.heap.size ≤ b) →
        ∀ j k, j ≠ k → (AL.contains j && AL.contains k) = true → (listed.setIfInBounds i true).getD j false = true → (listed.setIfInBounds i true).getD k false = true → upd vs i v j ≠ upd vs i v k := by
      intro v hv j k hjk hal hj hk
      rw [Bool.and_eq_true] at hal
      by_cases h1 : j = i
      · subst h1
        have hki : k ≠ j := fun h => hjk h.symm
        rw [upd_self, upd_ne vs j v k hki]
        obtain ⟨b, rfl, hb⟩ := hv hal.1
        obtain ⟨b', e', hb'⟩ := hAL k vs w hal.2 (hV k (hji k hk hki))
        unfold isPtr at e'
        rw [e']
        intro e; simp at e <;> omega
      · by_cases h3 : k = i
        · subst h3
          rw [upd_self, upd_ne vs k v j h1]
          obtain ⟨b, rfl, hb⟩ := hv hal.2
          obtain ⟨b', e', hb'⟩ := hAL j vs w hal.1 (hV j (hji j hj h1))
          unfold isPtr at e'
          rw [e']
          intro e; simp at e <;> omega
        · rw [upd_ne vs i v j h1, upd_ne vs i v k h3]
          exact hne j k hjk (by rw [Bool.and_eq_true]; exact hal) (hji j hj h1) (hji k hk h3)
    refine wpOp_step ho (fun K hK => ?_)
    have hs1 := Each.at os 0 step i o ho'
    rw [Nat.zero_add] at hs1
    have hnst : (ST.all fun s => s == i || anc os.toArray os.length s i) = true → ∀ s, ST.contains s = true → listed.getD s false = false := by
      intro h s hs
      have h1 := List.all_eq_true.1 h s (by simpa using hs)
      rw [Bool.or_eq_true] at h1
      rcases h1 with h1 | h1
      · obtain rfl : s = i := by simpa using h1
        exact h2
      · cases hg : listed.getD s false with
        | false => rfl
        | true => rw [hnot s hg] at h1; cases h1
    have hup : (∀ s, ST.contains s = true → (listed.setIfInBounds i true).getD s false = false) → ST.contains i = false ∧ ∀ s, ST.contains s = true → listed.getD s false = false := by
      intro h
      refine ⟨?_, fun s hs => ?_⟩
      · cases hg : ST.contains i with
        | false => rfl
        | true => have := h i hg; rw [getD_self hl] at this; cases this
      · cases hg : listed.getD s false with
        | false => rfl
        | true => have := h s hs; rw [getD_set_true hg] at this; cases this
    have hholdU : ∀ v j, (listed.setIfInBounds i true).getD j false = false → upd vs i v j = held os a j := by
      intro v j hj
      have hji' : j ≠ i := fun e => by subst e; rw [getD_self hl] at hj; cases hj
      rw [upd_ne vs i v j hji']
      rw [getD_set_ne false (fun x => hji' x.symm)] at hj
      exact hold j hj
    have hholdI : ∀ k, (k == i || anc os.toArray os.length k i) = true → vs k = held os a k := by
      intro k hk
      refine hold k ?_
      rw [Bool.or_eq_true] at hk
      rcases hk with h | h
      · obtain rfl : k = i := by simpa using h
        exact h2
      · cases hg : listed.getD k false with
        | false => rfl
        | true => rw [hnot k hg] at h; cases h
    refine hs1 vs w hB (fun h => hS (hnst h)) (fun k hk => hV k (hanc k hk)) (fun j k hjk h => ?_) hholdI K (fun hal v w' hb hv => ?_) (fun b w' hb hbl hv => ?_) (fun hal v w' hB' hB0' hv hr => ?_)
    · simp only [Bool.and_eq_true] at h
      exact hne j k hjk (by rw [Bool.and_eq_true]; exact ⟨h.1.1.1, h.1.1.2⟩) (hanc j h.1.2) (hanc k h.2)
    · rw [puts_upd os 0 i o vs v a hn ho', Nat.zero_add]
      refine hK _ _ ⟨upd vs i v, rfl, hBE w w' hB hb, fun h => hBE0 w w' hB (hS (hup h).2) hb, fun j hj => ?_, hholdU _, hneU v (fun h => by rw [hal] at h; cases h)⟩
      by_cases h : j = i
      · subst h; exact hv
      · exact Cl.upd_ne h _ (hlooks j (hji j hj h)) (Cl.below hb _ (hV j (hji j hj h)))
    · rw [puts_upd os 0 i o vs _ a hn ho', Nat.zero_add]
      refine hK _ _ ⟨upd vs i _, rfl, hBE w w' hB hb, fun h => hBE0 w w' hB (hS (hup h).2) hb, fun j hj => ?_, hholdU _, hneU _ (fun h => ⟨b, rfl, hbl⟩)⟩
      by_cases h : j = i
      · subst h; exact hv
      · exact Cl.upd_ne h _ (hlooks j (hji j hj h)) (Cl.below hb _ (hV j (hji j hj h)))
    · rw [puts_upd os 0 i o vs v a hn ho', Nat.zero_add]
      refine hK _ _ ⟨upd vs i v, rfl, hB', fun h => hB0' (hup h).1, fun j hj => ?_, hholdU _, hneU v (fun h => by rw [hal] at h; cases h)⟩
      by_cases h : j = i
      · subst h; exact hv
      · exact Cl.upd_ne h _ (hlooks j (hji j hj h)) (hr j h (hnot j (hji j hj h)) (hV j (hji j hj h)))
  · rintro listed a' w hall ⟨vs, rfl, hB, hS, hV, _, hne⟩
    rw [hsz] at hall
    exact fin vs w hB (fun i hi => hV i (hall i hi)) (fun j k hjk hj hk hal => hne j k hjk hal (hall j hj) (hall k hk))
  · intro i o _ h
    rw [Array.getD_eq_getD_getElem?, Array.getElem?_replicate] at h
    split at h <;> simp at h
  · refine (puts_held os 0 _ a fun j o ho => ?_).symm
    rw [Nat.zero_add]
    unfold held
    rw [ho]
  · intro i h
    rw [Array.getD_eq_getD_getElem?, Array.getElem?_replicate] at h
    split at h <;> simp at h
  · intro j k _ _ h
    rw [Array.getD_eq_getD_getElem?, Array.getElem?_replicate] at h
    split at h <;> simp at h
/-- The same, where no operation panics. -/
theorem wp_region_calm {os : List Oper} {id : Nat} {a : Act} {w : World} (B : World → Prop) (ST : List Nat) (B0 : World → Prop) (cls : List Cl) (AL : List Nat)
    (hm : P.follows .mixedOrders = true) (he : earlier os.toArray = true) (hn : nodupB (dsts os) = true) (hU : looksOk os (cls.map Cl.looks) = true) (hB : B w.drew) (hB0 : B0 w.drew)
    (hBE : ∀ w w', B w → Below w.heap.size w w' → B w') (hBE0 : ∀ w w', B w → B0 w → Below w.heap.size w w' → B0 w')
    (hAL : ∀ k vs w, AL.contains k = true → claim cls k vs w → ∃ b, isPtr (vs k) b ∧ b < w.heap.size)
    (step : ∀ Q : Exit → Act → World → Prop, Each os.toArray (StepAt P Q os a B ST B0 cls AL) os 0)
    (fin : ∀ vs w, B w → (∀ i, i < os.length → claim cls i vs w) → (∀ j k, j ≠ k → j < os.length → k < os.length → (AL.contains j && AL.contains k) = true → vs j ≠ vs k) → Q .normal (puts os 0 vs a) w) :
    (Code.region id os.toArray true).wp P Q a w :=
  wp_region_cl B ST B0 cls AL hm he hn hU hB hB0 hBE hBE0 hAL (step Q) fin
/-- Each claim but one lasts from one world to another. -/
def KeepAll (i : Nat) (vs : Nat → Value) (w w' : World) : List Cl → Nat → Prop
  | [], _ => True
  | c :: cs, k => (k = i ∨ (c.holds k vs w → c.holds k vs w')) ∧ KeepAll i vs w w' cs (k + 1)
theorem keep_all {i : Nat} {vs : Nat → Value} {w w' : World} : ∀ {cls : List Cl} {k : Nat}, KeepAll i vs w w' cls k → ∀ j, k + j ≠ i → (cls.getD j .any).holds (k + j) vs w → (cls.getD j .any).holds (k + j) vs w'
  | [], _, _, j, _, h => by simp [Cl.holds]
  | c :: cs, k, hk, j, hj, h => by
    cases j with
    | zero => exact (hk.1.resolve_left hj) h
    | succ j =>
      have := keep_all (cls := cs) (k := k + 1) hk.2 j (by omega)
      rw [show k + 1 + j = k + (j + 1) by omega] at this
      exact this h
theorem claims_keep {i : Nat} {vs : Nat → Value} {w w' : World} {cls : List Cl} {p : Nat → Prop} (h : KeepAll i vs w w' cls 0) : ∀ j, j ≠ i → p j → claim cls j vs w → claim cls j vs w' := fun j hj _ hc => by
  have := keep_all h j (by omega)
  rw [Nat.zero_add] at this
  exact this hc
/-- A value is this one. -/
def Is (v : Value) : Cl := .own (fun u _ => u = v) (fun _ _ _ h _ => h)
theorem is_keep {v : Value} {k : Nat} {vs : Nat → Value} {w w' : World} (h : (Is v).holds k vs w) : (Is v).holds k vs w' := h
end
end Go.Proofs.Ytgmnboacehopfaa
namespace Go.Proofs.Ytgmnboacehopfaa
open Go.RowKit

theorem bcell {W w1 : World} (hb : Below W.heap.size W w1) : (∀ b o, b < W.heap.size → w1.cell? ⟨b, o, none⟩ = W.cell? ⟨b, o, none⟩) ∧ (∀ b o, b < W.heap.size → w1.frozen? ⟨b, o, none⟩ = W.frozen? ⟨b, o, none⟩) :=
  ⟨fun b o h => hb.cell (p := ⟨b, o, none⟩) h, fun b o h => hb.frozen (p := ⟨b, o, none⟩) h⟩
theorem bz0 {n : Nat} {W w1 : World} (hb : Below W.heap.size W w1) (h : n + 0 ≤ W.heap.size) :
    n ≤ w1.heap.size ∧ n ≤ w1.heap.size + 1 ∧ n ≤ w1.heap.size + 1 + 1 ∧ n ≤ w1.heap.size + 1 + 1 + 1 ∧ n ≤ w1.heap.size + 1 + 1 + 1 + 1 ∧ n ≤ w1.heap.size + 1 + 1 + 1 + 1 + 1 ∧ n < w1.heap.size + 1 ∧ n < w1.heap.size + 1 + 1 ∧ n < w1.heap.size + 1 + 1 + 1 ∧ n < w1.heap.size + 1 + 1 + 1 + 1 ∧ n < w1.heap.size + 1 + 1 + 1 + 1 + 1 := by
  have := hb.size
  omega
theorem bz1 {n : Nat} {W w1 : World} (hb : Below W.heap.size W w1) (h : n + 1 ≤ W.heap.size) :
    n < w1.heap.size ∧ n ≤ w1.heap.size ∧ n ≤ w1.heap.size + 1 ∧ n ≤ w1.heap.size + 1 + 1 ∧ n ≤ w1.heap.size + 1 + 1 + 1 ∧ n ≤ w1.heap.size + 1 + 1 + 1 + 1 ∧ n ≤ w1.heap.size + 1 + 1 + 1 + 1 + 1 ∧ n < w1.heap.size + 1 ∧ n < w1.heap.size + 1 + 1 ∧ n < w1.heap.size + 1 + 1 + 1 ∧ n < w1.heap.size + 1 + 1 + 1 + 1 ∧ n < w1.heap.size + 1 + 1 + 1 + 1 + 1 := by
  have := hb.size
  omega
theorem bz2 {n : Nat} {W w1 : World} (hb : Below W.heap.size W w1) (h : n + 2 ≤ W.heap.size) :
    n < w1.heap.size ∧ n + 1 < w1.heap.size ∧ n ≤ w1.heap.size ∧ n + 1 ≤ w1.heap.size ∧ n ≤ w1.heap.size + 1 ∧ n ≤ w1.heap.size + 1 + 1 ∧ n ≤ w1.heap.size + 1 + 1 + 1 ∧ n ≤ w1.heap.size + 1 + 1 + 1 + 1 ∧ n ≤ w1.heap.size + 1 + 1 + 1 + 1 + 1 ∧ n < w1.heap.size + 1 ∧ n < w1.heap.size + 1 + 1 ∧ n < w1.heap.size + 1 + 1 + 1 ∧ n < w1.heap.size + 1 + 1 + 1 + 1 ∧ n < w1.heap.size + 1 + 1 + 1 + 1 + 1 := by
  have := hb.size
  omega
theorem bz3 {n : Nat} {W w1 : World} (hb : Below W.heap.size W w1) (h : n + 3 ≤ W.heap.size) :
    n < w1.heap.size ∧ n + 1 < w1.heap.size ∧ n + 1 + 1 < w1.heap.size ∧ n ≤ w1.heap.size ∧ n + 1 ≤ w1.heap.size ∧ n + 1 + 1 ≤ w1.heap.size ∧ n ≤ w1.heap.size + 1 ∧ n ≤ w1.heap.size + 1 + 1 ∧ n ≤ w1.heap.size + 1 + 1 + 1 ∧ n ≤ w1.heap.size + 1 + 1 + 1 + 1 ∧ n ≤ w1.heap.size + 1 + 1 + 1 + 1 + 1 ∧ n < w1.heap.size + 1 ∧ n < w1.heap.size + 1 + 1 ∧ n < w1.heap.size + 1 + 1 + 1 ∧ n < w1.heap.size + 1 + 1 + 1 + 1 ∧ n < w1.heap.size + 1 + 1 + 1 + 1 + 1 := by
  have := hb.size
  omega
theorem bz4 {n : Nat} {W w1 : World} (hb : Below W.heap.size W w1) (h : n + 4 ≤ W.heap.size) :
    n < w1.heap.size ∧ n + 1 < w1.heap.size ∧ n + 1 + 1 < w1.heap.size ∧ n + 1 + 1 + 1 < w1.heap.size ∧ n ≤ w1.heap.size ∧ n + 1 ≤ w1.heap.size ∧ n + 1 + 1 ≤ w1.heap.size ∧ n + 1 + 1 + 1 ≤ w1.heap.size ∧ n ≤ w1.heap.size + 1 ∧ n ≤ w1.heap.size + 1 + 1 ∧ n ≤ w1.heap.size + 1 + 1 + 1 ∧ n ≤ w1.heap.size + 1 + 1 + 1 + 1 ∧ n ≤ w1.heap.size + 1 + 1 + 1 + 1 + 1 ∧ n < w1.heap.size + 1 ∧ n < w1.heap.size + 1 + 1 ∧ n < w1.heap.size + 1 + 1 + 1 ∧ n < w1.heap.size + 1 + 1 + 1 + 1 ∧ n < w1.heap.size + 1 + 1 + 1 + 1 + 1 := by
  have := hb.size
  omega
theorem bz5 {n : Nat} {W w1 : World} (hb : Below W.heap.size W w1) (h : n + 5 ≤ W.heap.size) :
    n < w1.heap.size ∧ n + 1 < w1.heap.size ∧ n + 1 + 1 < w1.heap.size ∧ n + 1 + 1 + 1 < w1.heap.size ∧ n + 1 + 1 + 1 + 1 < w1.heap.size ∧ n ≤ w1.heap.size ∧ n + 1 ≤ w1.heap.size ∧ n + 1 + 1 ≤ w1.heap.size ∧ n + 1 + 1 + 1 ≤ w1.heap.size ∧ n + 1 + 1 + 1 + 1 ≤ w1.heap.size ∧ n ≤ w1.heap.size + 1 ∧ n ≤ w1.heap.size + 1 + 1 ∧ n ≤ w1.heap.size + 1 + 1 + 1 ∧ n ≤ w1.heap.size + 1 + 1 + 1 + 1 ∧ n ≤ w1.heap.size + 1 + 1 + 1 + 1 + 1 ∧ n < w1.heap.size + 1 ∧ n < w1.heap.size + 1 + 1 ∧ n < w1.heap.size + 1 + 1 + 1 ∧ n < w1.heap.size + 1 + 1 + 1 + 1 ∧ n < w1.heap.size + 1 + 1 + 1 + 1 + 1 := by
  have := hb.size
  omega
theorem bz6 {n : Nat} {W w1 : World} (hb : Below W.heap.size W w1) (h : n + 6 ≤ W.heap.size) :
    n < w1.heap.size ∧ n + 1 < w1.heap.size ∧ n + 1 + 1 < w1.heap.size ∧ n + 1 + 1 + 1 < w1.heap.size ∧ n + 1 + 1 + 1 + 1 < w1.heap.size ∧ n + 1 + 1 + 1 + 1 + 1 < w1.heap.size ∧ n ≤ w1.heap.size ∧ n + 1 ≤ w1.heap.size ∧ n + 1 + 1 ≤ w1.heap.size ∧ n + 1 + 1 + 1 ≤ w1.heap.size ∧ n + 1 + 1 + 1 + 1 ≤ w1.heap.size ∧ n + 1 + 1 + 1 + 1 + 1 ≤ w1.heap.size ∧ n ≤ w1.heap.size + 1 ∧ n ≤ w1.heap.size + 1 + 1 ∧ n ≤ w1.heap.size + 1 + 1 + 1 ∧ n ≤ w1.heap.size + 1 + 1 + 1 + 1 ∧ n ≤ w1.heap.size + 1 + 1 + 1 + 1 + 1 ∧ n < w1.heap.size + 1 ∧ n < w1.heap.size + 1 + 1 ∧ n < w1.heap.size + 1 + 1 + 1 ∧ n < w1.heap.size + 1 + 1 + 1 + 1 ∧ n < w1.heap.size + 1 + 1 + 1 + 1 + 1 := by
  have := hb.size
  omega
theorem bz7 {n : Nat} {W w1 : World} (hb : Below W.heap.size W w1) (h : n + 7 ≤ W.heap.size) :
    n < w1.heap.size ∧ n + 1 < w1.heap.size ∧ n + 1 + 1 < w1.heap.size ∧ n + 1 + 1 + 1 < w1.heap.size ∧ n + 1 + 1 + 1 + 1 < w1.heap.size ∧ n + 1 + 1 + 1 + 1 + 1 < w1.heap.size ∧ n + 1 + 1 + 1 + 1 + 1 + 1 < w1.heap.size ∧ n ≤ w1.heap.size ∧ n + 1 ≤ w1.heap.size ∧ n + 1 + 1 ≤ w1.heap.size ∧ n + 1 + 1 + 1 ≤ w1.heap.size ∧ n + 1 + 1 + 1 + 1 ≤ w1.heap.size ∧ n + 1 + 1 + 1 + 1 + 1 ≤ w1.heap.size ∧ n + 1 + 1 + 1 + 1 + 1 + 1 ≤ w1.heap.size ∧ n ≤ w1.heap.size + 1 ∧ n ≤ w1.heap.size + 1 + 1 ∧ n ≤ w1.heap.size + 1 + 1 + 1 ∧ n ≤ w1.heap.size + 1 + 1 + 1 + 1 ∧ n ≤ w1.heap.size + 1 + 1 + 1 + 1 + 1 ∧ n < w1.heap.size + 1 ∧ n < w1.heap.size + 1 + 1 ∧ n < w1.heap.size + 1 + 1 + 1 ∧ n < w1.heap.size + 1 + 1 + 1 + 1 ∧ n < w1.heap.size + 1 + 1 + 1 + 1 + 1 := by
  have := hb.size
  omega
theorem bz8 {n : Nat} {W w1 : World} (hb : Below W.heap.size W w1) (h : n + 8 ≤ W.heap.size) :
    n < w1.heap.size ∧ n + 1 < w1.heap.size ∧ n + 1 + 1 < w1.heap.size ∧ n + 1 + 1 + 1 < w1.heap.size ∧ n + 1 + 1 + 1 + 1 < w1.heap.size ∧ n + 1 + 1 + 1 + 1 + 1 < w1.heap.size ∧ n + 1 + 1 + 1 + 1 + 1 + 1 < w1.heap.size ∧ n + 1 + 1 + 1 + 1 + 1 + 1 + 1 < w1.heap.size ∧ n ≤ w1.heap.size ∧ n + 1 ≤ w1.heap.size ∧ n + 1 + 1 ≤ w1.heap.size ∧ n + 1 + 1 + 1 ≤ w1.heap.size ∧ n + 1 + 1 + 1 + 1 ≤ w1.heap.size ∧ n + 1 + 1 + 1 + 1 + 1 ≤ w1.heap.size ∧ n + 1 + 1 + 1 + 1 + 1 + 1 ≤ w1.heap.size ∧ n + 1 + 1 + 1 + 1 + 1 + 1 + 1 ≤ w1.heap.size ∧ n ≤ w1.heap.size + 1 ∧ n ≤ w1.heap.size + 1 + 1 ∧ n ≤ w1.heap.size + 1 + 1 + 1 ∧ n ≤ w1.heap.size + 1 + 1 + 1 + 1 ∧ n ≤ w1.heap.size + 1 + 1 + 1 + 1 + 1 ∧ n < w1.heap.size + 1 ∧ n < w1.heap.size + 1 + 1 ∧ n < w1.heap.size + 1 + 1 + 1 ∧ n < w1.heap.size + 1 + 1 + 1 + 1 ∧ n < w1.heap.size + 1 + 1 + 1 + 1 + 1 := by
  have := hb.size
  omega
theorem bz9 {n : Nat} {W w1 : World} (hb : Below W.heap.size W w1) (h : n + 9 ≤ W.heap.size) :
    n < w1.heap.size ∧ n + 1 < w1.heap.size ∧ n + 1 + 1 < w1.heap.size ∧ n + 1 + 1 + 1 < w1.heap.size ∧ n + 1 + 1 + 1 + 1 < w1.heap.size ∧ n + 1 + 1 + 1 + 1 + 1 < w1.heap.size ∧ n + 1 + 1 + 1 + 1 + 1 + 1 < w1.heap.size ∧ n + 1 + 1 + 1 + 1 + 1 + 1 + 1 < w1.heap.size ∧ n + 1 + 1 + 1 + 1 + 1 + 1 + 1 + 1 < w1.heap.size ∧ n ≤ w1.heap.size ∧ n + 1 ≤ w1.heap.size ∧ n + 1 + 1 ≤ w1.heap.size ∧ n + 1 + 1 + 1 ≤ w1.heap.size ∧ n + 1 + 1 + 1 + 1 ≤ w1.heap.size ∧ n + 1 + 1 + 1 + 1 + 1 ≤ w1.heap.size ∧ n + 1 + 1 + 1 + 1 + 1 + 1 ≤ w1.heap.size ∧ n + 1 + 1 + 1 + 1 + 1 + 1 + 1 ≤ w1.heap.size ∧ n + 1 + 1 + 1 + 1 + 1 + 1 + 1 + 1 ≤ w1.heap.size ∧ n ≤ w1.heap.size + 1 ∧ n ≤ w1.heap.size + 1 + 1 ∧ n ≤ w1.heap.size + 1 + 1 + 1 ∧ n ≤ w1.heap.size + 1 + 1 + 1 + 1 ∧ n ≤ w1.heap.size + 1 + 1 + 1 + 1 + 1 ∧ n < w1.heap.size + 1 ∧ n < w1.heap.size + 1 + 1 ∧ n < w1.heap.size + 1 + 1 + 1 ∧ n < w1.heap.size + 1 + 1 + 1 + 1 ∧ n < w1.heap.size + 1 + 1 + 1 + 1 + 1 := by
  have := hb.size
  omega
theorem bz10 {n : Nat} {W w1 : World} (hb : Below W.heap.size W w1) (h : n + 10 ≤ W.heap.size) :
    n < w1.heap.size ∧ n + 1 < w1.heap.size ∧ n + 1 + 1 < w1.heap.size ∧ n + 1 + 1 + 1 < w1.heap.size ∧ n + 1 + 1 + 1 + 1 < w1.heap.size ∧ n + 1 + 1 + 1 + 1 + 1 < w1.heap.size ∧ n + 1 + 1 + 1 + 1 + 1 + 1 < w1.heap.size ∧ n + 1 + 1 + 1 + 1 + 1 + 1 + 1 < w1.heap.size ∧ n + 1 + 1 + 1 + 1 + 1 + 1 + 1 + 1 < w1.heap.size ∧ n + 1 + 1 + 1 + 1 + 1 + 1 + 1 + 1 + 1 < w1.heap.size ∧ n ≤ w1.heap.size ∧ n + 1 ≤ w1.heap.size ∧ n + 1 + 1 ≤ w1.heap.size ∧ n + 1 + 1 + 1 ≤ w1.heap.size ∧ n + 1 + 1 + 1 + 1 ≤ w1.heap.size ∧ n + 1 + 1 + 1 + 1 + 1 ≤ w1.heap.size ∧ n + 1 + 1 + 1 + 1 + 1 + 1 ≤ w1.heap.size ∧ n + 1 + 1 + 1 + 1 + 1 + 1 + 1 ≤ w1.heap.size ∧ n + 1 + 1 + 1 + 1 + 1 + 1 + 1 + 1 ≤ w1.heap.size ∧ n + 1 + 1 + 1 + 1 + 1 + 1 + 1 + 1 + 1 ≤ w1.heap.size ∧ n ≤ w1.heap.size + 1 ∧ n ≤ w1.heap.size + 1 + 1 ∧ n ≤ w1.heap.size + 1 + 1 + 1 ∧ n ≤ w1.heap.size + 1 + 1 + 1 + 1 ∧ n ≤ w1.heap.size + 1 + 1 + 1 + 1 + 1 ∧ n < w1.heap.size + 1 ∧ n < w1.heap.size + 1 + 1 ∧ n < w1.heap.size + 1 + 1 + 1 ∧ n < w1.heap.size + 1 + 1 + 1 + 1 ∧ n < w1.heap.size + 1 + 1 + 1 + 1 + 1 := by
  have := hb.size
  omega
theorem bz11 {n : Nat} {W w1 : World} (hb : Below W.heap.size W w1) (h : n + 11 ≤ W.heap.size) :
    n < w1.heap.size ∧ n + 1 < w1.heap.size ∧ n + 1 + 1 < w1.heap.size ∧ n + 1 + 1 + 1 < w1.heap.size ∧ n + 1 + 1 + 1 + 1 < w1.heap.size ∧ n + 1 + 1 + 1 + 1 + 1 < w1.heap.size ∧ n + 1 + 1 + 1 + 1 + 1 + 1 < w1.heap.size ∧ n + 1 + 1 + 1 + 1 + 1 + 1 + 1 < w1.heap.size ∧ n + 1 + 1 + 1 + 1 + 1 + 1 + 1 + 1 < w1.heap.size ∧ n + 1 + 1 + 1 + 1 + 1 + 1 + 1 + 1 + 1 < w1.heap.size ∧ n + 1 + 1 + 1 + 1 + 1 + 1 + 1 + 1 + 1 + 1 < w1.heap.size ∧ n ≤ w1.heap.size ∧ n + 1 ≤ w1.heap.size ∧ n + 1 + 1 ≤ w1.heap.size ∧ n + 1 + 1 + 1 ≤ w1.heap.size ∧ n + 1 + 1 + 1 + 1 ≤ w1.heap.size ∧ n + 1 + 1 + 1 + 1 + 1 ≤ w1.heap.size ∧ n + 1 + 1 + 1 + 1 + 1 + 1 ≤ w1.heap.size ∧ n + 1 + 1 + 1 + 1 + 1 + 1 + 1 ≤ w1.heap.size ∧ n + 1 + 1 + 1 + 1 + 1 + 1 + 1 + 1 ≤ w1.heap.size ∧ n + 1 + 1 + 1 + 1 + 1 + 1 + 1 + 1 + 1 ≤ w1.heap.size ∧ n + 1 + 1 + 1 + 1 + 1 + 1 + 1 + 1 + 1 + 1 ≤ w1.heap.size ∧ n ≤ w1.heap.size + 1 ∧ n ≤ w1.heap.size + 1 + 1 ∧ n ≤ w1.heap.size + 1 + 1 + 1 ∧ n ≤ w1.heap.size + 1 + 1 + 1 + 1 ∧ n ≤ w1.heap.size + 1 + 1 + 1 + 1 + 1 ∧ n < w1.heap.size + 1 ∧ n < w1.heap.size + 1 + 1 ∧ n < w1.heap.size + 1 + 1 + 1 ∧ n < w1.heap.size + 1 + 1 + 1 + 1 ∧ n < w1.heap.size + 1 + 1 + 1 + 1 + 1 := by
  have := hb.size
  omega
theorem bz12 {n : Nat} {W w1 : World} (hb : Below W.heap.size W w1) (h : n + 12 ≤ W.heap.size) :
    n < w1.heap.size ∧ n + 1 < w1.heap.size ∧ n + 1 + 1 < w1.heap.size ∧ n + 1 + 1 + 1 < w1.heap.size ∧ n + 1 + 1 + 1 + 1 < w1.heap.size ∧ n + 1 + 1 + 1 + 1 + 1 < w1.heap.size ∧ n + 1 + 1 + 1 + 1 + 1 + 1 < w1.heap.size ∧ n + 1 + 1 + 1 + 1 + 1 + 1 + 1 < w1.heap.size ∧ n + 1 + 1 + 1 + 1 + 1 + 1 + 1 + 1 < w1.heap.size ∧ n + 1 + 1 + 1 + 1 + 1 + 1 + 1 + 1 + 1 < w1.heap.size ∧ n + 1 + 1 + 1 + 1 + 1 + 1 + 1 + 1 + 1 + 1 < w1.heap.size ∧ n + 1 + 1 + 1 + 1 + 1 + 1 + 1 + 1 + 1 + 1 + 1 < w1.heap.size ∧ n ≤ w1.heap.size ∧ n + 1 ≤ w1.heap.size ∧ n + 1 + 1 ≤ w1.heap.size ∧ n + 1 + 1 + 1 ≤ w1.heap.size ∧ n + 1 + 1 + 1 + 1 ≤ w1.heap.size ∧ n + 1 + 1 + 1 + 1 + 1 ≤ w1.heap.size ∧ n + 1 + 1 + 1 + 1 + 1 + 1 ≤ w1.heap.size ∧ n + 1 + 1 + 1 + 1 + 1 + 1 + 1 ≤ w1.heap.size ∧ n + 1 + 1 + 1 + 1 + 1 + 1 + 1 + 1 ≤ w1.heap.size ∧ n + 1 + 1 + 1 + 1 + 1 + 1 + 1 + 1 + 1 ≤ w1.heap.size ∧ n + 1 + 1 + 1 + 1 + 1 + 1 + 1 + 1 + 1 + 1 ≤ w1.heap.size ∧ n + 1 + 1 + 1 + 1 + 1 + 1 + 1 + 1 + 1 + 1 + 1 ≤ w1.heap.size ∧ n ≤ w1.heap.size + 1 ∧ n ≤ w1.heap.size + 1 + 1 ∧ n ≤ w1.heap.size + 1 + 1 + 1 ∧ n ≤ w1.heap.size + 1 + 1 + 1 + 1 ∧ n ≤ w1.heap.size + 1 + 1 + 1 + 1 + 1 ∧ n < w1.heap.size + 1 ∧ n < w1.heap.size + 1 + 1 ∧ n < w1.heap.size + 1 + 1 + 1 ∧ n < w1.heap.size + 1 + 1 + 1 + 1 ∧ n < w1.heap.size + 1 + 1 + 1 + 1 + 1 := by
  have := hb.size
  omega

theorem bzz {W w1 : World} (hb : Below W.heap.size W w1) :
    ((∀ b, b < W.heap.size → b < w1.heap.size) ∧ (∀ b, b ≤ W.heap.size → b ≤ w1.heap.size) ∧ (∀ b, b ≤ W.heap.size → b ≤ w1.heap.size + 1) ∧ (∀ b, b ≤ W.heap.size → b ≤ w1.heap.size + 1 + 1) ∧ (∀ b, b ≤ W.heap.size → b ≤ w1.heap.size + 1 + 1 + 1) ∧ (∀ b, b ≤ W.heap.size → b ≤ w1.heap.size + 1 + 1 + 1 + 1)) ∧ W.heap.size ≤ w1.heap.size := by
  have := hb.size
  refine ⟨⟨?_, ?_, ?_, ?_, ?_, ?_⟩, this⟩ <;> intro b h <;> omega
theorem below_alloc {B : Nat} {a w : World} (h : Below B a w) (o : Obj) (hB : B ≤ w.heap.size) : Below B a (w.alloc o) := h.alloc hB o
theorem below_dN {B : Nat} {a w : World} (h : Below B a w) (n : Nat) : Below B a (w.drewN n) := ⟨h.os, h.tape, h.output, h.size, h.block⟩
theorem below_set {B : Nat} {a w : World} {p : Addr} (u : Value) (h : Below B a w) (hp : B ≤ p.block) : Below B a (w.setCell p u) := h.setCell hp u
theorem below_thenA {B : Nat} {a w w' : World} (h' : Below w.heap.size w w') (h : Below B a w) (hB : B ≤ w.heap.size) : Below B a w' := h.trans (h'.mono hB)
theorem below_then {B : Nat} {a w w' : World} (h : Below B a w) (h' : Below w.heap.size w w') (hB : B ≤ w.heap.size) : Below B a w' := h.trans (h'.mono hB)
theorem ret_int {k : IntKind} {a b : Int} (h : a = b) : Ending.returned (.int k a) = .returned (.int k b) := by rw [h]
theorem u64n (n : Int) : 0 ≤ IntKind.u64.wrap n := wrap_u64_nonneg n

theorem add64 (x y c : Int) (hx : 0 ≤ x) (hy : 0 ≤ y) (hc0 : 0 ≤ c) (hc : c ≤ 1) (w : World) : (callFunc 80 #[.int .u64 x, .int .u64 y, .int .u64 c]).run Try.prog w =
    .ok (.value (.tuple #[.int .u64 ((x + y + c) % 18446744073709551616), .int .u64 ((x + y + c) / 18446744073709551616)])) w := by
  rw [run_callFunc_extern Try.func80 (by kernel_rfl) (by kernel_rfl) (by kernel_rfl) (e := add64Entry) (by kernel_rfl), run_add64 x y c hx hy hc0 hc]
  rfl
theorem add64_0 (x y : Int) (hx : 0 ≤ x) (hy : 0 ≤ y) (w : World) : (callFunc 80 #[.int .u64 x, .int .u64 y, .int .u64 0]).run Try.prog w =
    .ok (.value (.tuple #[.int .u64 ((x + y) % 18446744073709551616), .int .u64 ((x + y) / 18446744073709551616)])) w := by
  simpa using add64 x y 0 hx hy (Int.le_refl 0) (by decide) w
theorem add64_x0 (x c : Int) (hx : 0 ≤ x) (hc0 : 0 ≤ c) (hc : c ≤ 1) (w : World) : (callFunc 80 #[.int .u64 x, .int .u64 0, .int .u64 c]).run Try.prog w =
    .ok (.value (.tuple #[.int .u64 ((x + c) % 18446744073709551616), .int .u64 ((x + c) / 18446744073709551616)])) w := by
  simpa using add64 x 0 c hx (Int.le_refl 0) hc0 hc w

theorem u64_not (l : Int) (h0 : 0 ≤ l) (h1 : l ≤ 18446744073709551615) : bits .xor .u64 18446744073709551615 l = 18446744073709551615 - l := by
  obtain ⟨a, rfl⟩ := Int.eq_ofNat_of_zero_le h0
  show IntKind.u64.wrap ((BitVec.ofInt 64 18446744073709551615 ^^^ BitVec.ofInt 64 (a : Int)).toNat : Int) = _
  have h1 : BitVec.ofInt 64 18446744073709551615 = BitVec.allOnes 64 := by decide
  rw [h1, BitVec.allOnes_xor, BitVec.toNat_not, ofInt_u64 a (by omega)]
  simp [IntKind.wrap, IntKind.bits, IntKind.signed]
  omega
theorem u64le (n : Int) : IntKind.u64.wrap n ≤ 18446744073709551615 := by rw [IntKind.wrap_u64]; omega
/-- The two parts of a wide number. -/
def Wd (hi lo n : Int) : Prop := -9223372036854775808 ≤ hi ∧ hi ≤ 9223372036854775807 ∧ 0 ≤ lo ∧ lo ≤ 18446744073709551615 ∧ n = hi * 18446744073709551616 + lo
/-- Is it a wide number? -/
def WFit (n : Int) : Prop := -170141183460469231731687303715884105728 ≤ n ∧ n < 170141183460469231731687303715884105728
theorem Wd.fit {hi lo n : Int} (h : Wd hi lo n) : WFit n := by unfold Wd at h; unfold WFit; omega
theorem Wd.of {n : Int} (h : WFit n) : Wd (n / 18446744073709551616) (n % 18446744073709551616) n := by unfold WFit at h; unfold Wd; omega
theorem Wd.eq {hi lo n : Int} (h : Wd hi lo n) : hi = n / 18446744073709551616 ∧ lo = n % 18446744073709551616 := by unfold Wd at h; omega
def wv (n : Int) : Value := .agg #[.int .i64 (n / 18446744073709551616), .int .u64 (n % 18446744073709551616)]
theorem wv_eq {h l n : Int} (e1 : h = n / 18446744073709551616) (e2 : l = n % 18446744073709551616) : Value.agg #[.int .i64 h, .int .u64 l] = wv n := by rw [e1, e2]; rfl
end Go.Proofs.Ytgmnboacehopfaa
namespace Go.Proofs.Ytgmnboacehopfaa
open Go.RowKit
set_option linter.unusedSimpArgs false
set_option linter.unusedVariables false

/-- The block holds these cells. -/
def Blk (w : World) (b : Nat) (cs : Array Value) (T : TypeId) : Prop := w.heap[b]? = some (Obj.cells cs T (0, 0))
theorem Blk.cell {w : World} {b : Nat} {cs : Array Value} {T : TypeId} (h : Blk w b cs T) (i : Nat) (v : Value) (hv : cs[i]? = some v) : w.cell? ⟨b, i, none⟩ = some v := by rw [cell_of_row w b i _ _ _ h]; exact hv
theorem Blk.free {w : World} {b : Nat} {cs : Array Value} {T : TypeId} (h : Blk w b cs T) (i : Nat) : w.frozen? ⟨b, i, none⟩ = false := by simp [World.frozen?, show w.heap[b]? = _ from h]
theorem Blk.lt {w : World} {b : Nat} {cs : Array Value} {T : TypeId} (h : Blk w b cs T) : b < w.heap.size := (Array.getElem?_eq_some_iff.1 h).1
theorem Blk.new (w : World) (cs : Array Value) (T : TypeId) (b : Nat) (hb : b = w.heap.size) : Blk (w.alloc (.cells cs T)) b cs T := by subst hb; exact heap_alloc_new w _
theorem Blk.alloc {w : World} {b : Nat} {cs : Array Value} {T : TypeId} (h : Blk w b cs T) (o : Obj) : Blk (w.alloc o) b cs T := (Below.heap_alloc w o _ h.lt).trans h
theorem Blk.drew {w : World} {b : Nat} {cs : Array Value} {T : TypeId} (h : Blk w b cs T) : Blk w.drew b cs T := h
theorem Blk.drewN {w : World} {b : Nat} {cs : Array Value} {T : TypeId} (h : Blk w b cs T) (n : Nat) : Blk (w.drewN n) b cs T := h
theorem Blk.below {w w' : World} {b : Nat} {cs : Array Value} {T : TypeId} (h : Blk w b cs T) (hb : Below w.heap.size w w') : Blk w' b cs T := (hb.block b h.lt).trans h
theorem Blk.set {w : World} {b : Nat} {cs : Array Value} {T : TypeId} (h : Blk w b cs T) (i : Nat) (u : Value) : Blk (w.setCell ⟨b, i, none⟩ u) b (cs.setIfInBounds i u) T := by
  unfold Blk at *
  simp only [World.setCell, Array.getElem?_modify, if_true, h]
  rfl
theorem Blk.other {w : World} {b c : Nat} {cs : Array Value} {T : TypeId} (h : Blk w b cs T) (hc : b ≠ c) (i : Nat) (u : Value) : Blk (w.setCell ⟨c, i, none⟩ u) b cs T := by
  unfold Blk at *
  rw [Below.heap_setCell _ _ _ _ hc]; exact h
/-- Of what stood, block b alone may have turned. -/
structure But (b : Nat) (w w' : World) : Prop where
  os : w'.os = w.os
  tape : w'.tape = w.tape
  output : w'.output = w.output
  size : w.heap.size ≤ w'.heap.size
  block : ∀ k, k < w.heap.size → k ≠ b → w'.heap[k]? = w.heap[k]?
theorem But.of {b : Nat} {w w' : World} (h : Below w.heap.size w w') : But b w w' := ⟨h.os, h.tape, h.output, h.size, fun k hk _ => h.block k hk⟩
theorem But.trans {b : Nat} {u v w : World} (h : But b u v) (k : But b v w) : But b u w :=
  ⟨k.os.trans h.os, k.tape.trans h.tape, k.output.trans h.output, Nat.le_trans h.size k.size, fun i hi hne => (k.block i (Nat.lt_of_lt_of_le hi h.size) hne).trans (h.block i hi hne)⟩
theorem But.set {b : Nat} (w : World) (i : Nat) (u : Value) : But b w (w.setCell ⟨b, i, none⟩ u) :=
  ⟨rfl, rfl, rfl, by simp [World.setCell], fun k hk hne => Below.heap_setCell _ _ _ _ hne⟩
theorem But.to {b B : Nat} {w0 w w' : World} (h : But b w w') (h0 : Below B w0 w) (hb : B ≤ b) (hB : B ≤ w.heap.size) : Below B w0 w' :=
  h0.trans ⟨h.os, h.tape, h.output, h.size, fun k hk => h.block k (by omega) (by omega)⟩
theorem Blk.but {w w' : World} {b c : Nat} {cs : Array Value} {T : TypeId} (h : Blk w b cs T) (hb : But c w w') (hc : b ≠ c) : Blk w' b cs T := (hb.block b h.lt hc).trans h
/-- What is set behind a But is a But, where the block is new. -/
theorem But.setNew {b g : Nat} {w w' : World} (h : But b w w') (hg : w.heap.size ≤ g) (i : Nat) (u : Value) : But b w (w'.setCell ⟨g, i, none⟩ u) :=
  ⟨h.os, h.tape, h.output, by simp [World.setCell]; exact h.size, fun k hk hne => (Below.heap_setCell _ _ _ _ (show k ≠ g by omega)).trans (h.block k hk hne)⟩
/-- A slice of ints that came in. -/
def SliceI (k : IntKind) (w : World) (g off n cap : Nat) (xs : List Int) : Prop :=
  xs.length = cap ∧ n ≤ cap ∧ cap ≤ maxLen ∧ g < w.heap.size ∧ (∀ i, i < cap → w.cell? ⟨g, off + i, none⟩ = some (.int k (xs.getD i 0))) ∧ ∀ x, x ∈ xs → (Lit.int k x).wf = true
def SlV (k : IntKind) (w : World) (v : Value) : Prop := v = .slice none 0 0 ∨ ∃ (g off n cap : Nat) (xs : List Int), v = .slice (some ⟨g, off, none⟩) n cap ∧ SliceI k w g off n cap xs
/-- Blocks by a list; worlds in which of what stood those of a list alone may have turned. -/
def BlkL (w : World) (L : List (Nat × Array Value × TypeId)) : Prop := ∀ e, e ∈ L → Blk w e.1 e.2.1 e.2.2
structure ButL (l : List Nat) (w w' : World) : Prop where
  os : w'.os = w.os
  tape : w'.tape = w.tape
  output : w'.output = w.output
  size : w.heap.size ≤ w'.heap.size
  block : ∀ k, k < w.heap.size → k ∉ l → w'.heap[k]? = w.heap[k]?
theorem ButL.of {l : List Nat} {w w' : World} (h : Below w.heap.size w w') : ButL l w w' := ⟨h.os, h.tape, h.output, h.size, fun k hk _ => h.block k hk⟩
theorem ButL.trans {l : List Nat} {u v w : World} (h : ButL l u v) (k : ButL l v w) : ButL l u w :=
  ⟨k.os.trans h.os, k.tape.trans h.tape, k.output.trans h.output, Nat.le_trans h.size k.size, fun i hi hne => (k.block i (Nat.lt_of_lt_of_le hi h.size) hne).trans (h.block i hi hne)⟩
theorem ButL.set {l : List Nat} {b : Nat} (w : World) (i : Nat) (u : Value) (hb : b ∈ l) : ButL l w (w.setCell ⟨b, i, none⟩ u) :=
  ⟨rfl, rfl, rfl, by simp [World.setCell], fun k hk hne => Below.heap_setCell _ _ _ _ (fun e => hne (by rw [e]; exact hb))⟩
theorem ButL.to {l : List Nat} {B : Nat} {w0 w w' : World} (h : ButL l w w') (h0 : Below B w0 w) (hb : ∀ b, b ∈ l → B ≤ b) (hB : B ≤ w.heap.size) : Below B w0 w' :=
  h0.trans ⟨h.os, h.tape, h.output, h.size, fun k hk => h.block k (by omega) (fun hm => by have := hb k hm; omega)⟩
theorem Blk.butl {w w' : World} {l : List Nat} {b : Nat} {cs : Array Value} {T : TypeId} (h : Blk w b cs T) (hb : ButL l w w') (hc : b ∉ l) : Blk w' b cs T := (hb.block b h.lt hc).trans h
theorem ButL.setNew {l : List Nat} {g : Nat} {w w' : World} (h : ButL l w w') (hg : w.heap.size ≤ g) (i : Nat) (u : Value) : ButL l w (w'.setCell ⟨g, i, none⟩ u) :=
  ⟨h.os, h.tape, h.output, by simp [World.setCell]; exact h.size, fun k hk hne => (Below.heap_setCell _ _ _ _ (show k ≠ g by omega)).trans (h.block k hk hne)⟩
end Go.Proofs.Ytgmnboacehopfaa
namespace Go.Proofs.Ytgmnboacehopfaa.BM
/-- The value of a list of pieces, the lowest first. -/
def bval : List Nat → Nat
  | [] => 0
  | d :: ds => d + 65536 * bval ds
def Dig (ds : List Nat) : Prop := ∀ d ∈ ds, d < 65536
/-- No nought at the end. -/
def Trim (ds : List Nat) : Prop := ∀ h : ds ≠ [], ds.getLast h ≠ 0
/-- At most so many pieces. -/
def Sz (n : Int) (k : Nat) : Prop := n.natAbs < 65536 ^ k

theorem Dig.nil : Dig [] := fun _ h => by cases h
theorem Dig.cons {d : Nat} {ds : List Nat} (h : d < 65536) (hs : Dig ds) : Dig (d :: ds) := by
  intro x hx
  rcases List.mem_cons.1 hx with rfl | hx
  · exact h
  · exact hs x hx
theorem Dig.tail {d : Nat} {ds : List Nat} (h : Dig (d :: ds)) : Dig ds := fun x hx => h x (List.mem_cons_of_mem _ hx)
theorem Dig.head {d : Nat} {ds : List Nat} (h : Dig (d :: ds)) : d < 65536 := h d (List.mem_cons_self ..)
theorem Dig.append {a b : List Nat} (ha : Dig a) (hb : Dig b) : Dig (a ++ b) := by
  intro x hx
  rcases List.mem_append.1 hx with h | h
  · exact ha x h
  · exact hb x h
theorem Dig.snoc {a : List Nat} {d : Nat} (ha : Dig a) (hd : d < 65536) : Dig (a ++ [d]) :=
  ha.append (Dig.cons hd Dig.nil)
theorem Dig.take {a : List Nat} (ha : Dig a) (k : Nat) : Dig (a.take k) := fun x hx => ha x (List.mem_of_mem_take hx)
theorem Dig.drop {a : List Nat} (ha : Dig a) (k : Nat) : Dig (a.drop k) := fun x hx => ha x (List.mem_of_mem_drop hx)
theorem Dig.get {a : List Nat} (ha : Dig a) (k : Nat) (h : k < a.length) : a[k] < 65536 := ha _ (List.getElem_mem h)
theorem Dig.getD {a : List Nat} (ha : Dig a) (k : Nat) : a.getD k 0 < 65536 := by
  by_cases h : k < a.length
  · simpa [List.getD, h] using ha.get k h
  · simp [List.getD, List.getElem?_eq_none (Nat.le_of_not_lt h)]
theorem Dig.set {a : List Nat} (ha : Dig a) (k v : Nat) (hv : v < 65536) : Dig (a.set k v) := by
  intro x hx
  rcases List.mem_or_eq_of_mem_set hx with h | rfl
  · exact ha x h
  · exact hv
theorem Dig.replicate (n : Nat) : Dig (List.replicate n 0) := by
  intro x hx
  have := List.eq_of_mem_replicate hx
  omega

theorem bval_append (a b : List Nat) : bval (a ++ b) = bval a + 65536 ^ a.length * bval b := by
  induction a with
  | nil => simp [bval]
  | cons d ds ih =>
    simp only [List.cons_append, bval, ih, List.length_cons, Nat.pow_succ, Nat.mul_add]
    rw [Nat.mul_comm (65536 ^ ds.length) 65536, Nat.mul_assoc]
    omega
theorem bval_snoc (a : List Nat) (d : Nat) : bval (a ++ [d]) = bval a + 65536 ^ a.length * d := by
  rw [bval_append]; simp [bval]
theorem bval_take_succ (a : List Nat) (k : Nat) (h : k < a.length) : bval (a.take (k + 1)) = bval (a.take k) + 65536 ^ k * a[k] := by
  rw [List.take_succ_eq_append_getElem h, bval_snoc, List.length_take, Nat.min_eq_left (by omega)]
theorem bval_replicate (n : Nat) : bval (List.replicate n 0) = 0 := by
  induction n with
  | zero => rfl
  | succ n ih => simp [List.replicate_succ, bval, ih]
theorem bval_lt {a : List Nat} (h : Dig a) : bval a < 65536 ^ a.length := by
  induction a with
  | nil => simp [bval]
  | cons d ds ih =>
    have := ih h.tail
    have := h.head
    simp only [bval, List.length_cons, Nat.pow_succ]
    omega
theorem bval_take_lt {a : List Nat} (h : Dig a) (k : Nat) : bval (a.take k) < 65536 ^ k := by
  have h1 := bval_lt (h.take k)
  have h2 : (a.take k).length ≤ k := List.length_take_le ..
  exact Nat.lt_of_lt_of_le h1 (Nat.pow_le_pow_right (by decide) h2)
theorem bval_split (a : List Nat) (k : Nat) (h : k ≤ a.length) : bval a = bval (a.take k) + 65536 ^ k * bval (a.drop k) := by
  have := bval_append (a.take k) (a.drop k)
  rw [List.take_append_drop, List.length_take, Nat.min_eq_left h] at this
  exact this
theorem bval_drop (a : List Nat) (k : Nat) (h : k < a.length) : bval (a.drop k) = a[k] + 65536 * bval (a.drop (k + 1)) := by
  rw [List.drop_eq_getElem_cons h]; rfl
/-- A piece is replaced. -/
theorem bval_set (a : List Nat) (k v : Nat) (h : k < a.length) : bval (a.set k v) + 65536 ^ k * a[k] = bval a + 65536 ^ k * v := by
  induction a generalizing k with
  | nil => simp at h
  | cons d ds ih =>
    cases k with
    | zero => simp [bval]; omega
    | succ k =>
      have h' : k < ds.length := by simpa using h
      have := ih k h'
      simp only [List.set_cons_succ, bval, List.getElem_cons_succ, Nat.pow_succ]
      rw [Nat.mul_comm (65536 ^ k) 65536, Nat.mul_assoc, Nat.mul_assoc]
      omega

theorem Trim.nil : Trim [] := fun h => absurd rfl h
/-- A trimmed list that isn't empty is at least so great. -/
theorem Trim.ge {a : List Nat} (h : Trim a) (hne : a ≠ []) : 65536 ^ (a.length - 1) ≤ bval a := by
  have h1 := List.dropLast_concat_getLast hne
  have h2 := h hne
  rw [← h1, bval_snoc]
  simp only [List.length_append, List.length_dropLast, List.length_singleton]
  have h3 : 1 ≤ a.getLast hne := by omega
  have h4 : a.length - 1 + 1 - 1 = a.length - 1 := by omega
  rw [h4]
  calc 65536 ^ (a.length - 1) = 65536 ^ (a.length - 1) * 1 := by omega
    _ ≤ 65536 ^ (a.length - 1) * a.getLast hne := Nat.mul_le_mul_left _ h3
    _ ≤ _ := by omega
theorem Trim.eq_nil {a : List Nat} (h : Trim a) (h0 : bval a = 0) : a = [] := by
  by_cases hne : a = []
  · exact hne
  · have := h.ge hne
    have : 0 < 65536 ^ (a.length - 1) := Nat.pow_pos (by decide)
    omega
theorem Trim.len {a : List Nat} (h : Trim a) {k : Nat} (hk : bval a < 65536 ^ k) : a.length ≤ k := by
  by_cases hne : a = []
  · simp [hne]
  · have h1 := h.ge hne
    have h2 : 65536 ^ (a.length - 1) < 65536 ^ k := Nat.lt_of_le_of_lt h1 hk
    have := (Nat.pow_lt_pow_iff_right (a := 65536) (by decide)).1 h2
    omega
theorem len_lt_bval {a b : List Nat} (ha : Dig a) (hb : Trim b) (h : a.length < b.length) : bval a < bval b := by
  have h1 := bval_lt ha
  have hne : b ≠ [] := by intro e; simp [e] at h
  have h2 := hb.ge hne
  have h3 : 65536 ^ a.length ≤ 65536 ^ (b.length - 1) := Nat.pow_le_pow_right (by decide) (by omega)
  omega
/-- Of one length, and from a place on the same: the place decides. -/
theorem bval_cmp_at {a b : List Nat} (ha : Dig a) (k : Nat) (hka : k < a.length) (hkb : k < b.length)
    (hs : a.drop (k + 1) = b.drop (k + 1)) (hl : a[k] < b[k]) : bval a < bval b := by
  rw [bval_split a k (by omega), bval_split b k (by omega), bval_drop a k hka, bval_drop b k hkb, hs]
  have h1 := bval_take_lt ha k
  generalize bval (b.drop (k + 1)) = t
  generalize hp : 65536 ^ k = p at *
  have h2 : p * (a[k] + 65536 * t) + p ≤ p * (b[k] + 65536 * t) := by
    rw [← Nat.mul_succ]
    exact Nat.mul_le_mul_left _ (by omega)
  omega

theorem Sz.mono {n : Int} {j k : Nat} (h : Sz n j) (hk : j ≤ k) : Sz n k :=
  Nat.lt_of_lt_of_le h (Nat.pow_le_pow_right (by decide) hk)
theorem Sz.neg {n : Int} {k : Nat} (h : Sz n k) : Sz (-n) k := by simpa [Sz] using h
theorem Sz.abs {n : Int} {k : Nat} (h : Sz n k) : Sz (n.natAbs : Int) k := by simpa [Sz] using h
theorem Sz.add {a b : Int} {k : Nat} (ha : Sz a k) (hb : Sz b k) : Sz (a + b) (k + 1) := by
  unfold Sz at *
  have := Int.natAbs_add_le a b
  rw [Nat.pow_succ]
  omega
theorem Sz.sub {a b : Int} {k : Nat} (ha : Sz a k) (hb : Sz b k) : Sz (a - b) (k + 1) := by
  rw [Int.sub_eq_add_neg]; exact ha.add hb.neg
theorem Sz.mul {a b : Int} {j k : Nat} (ha : Sz a j) (hb : Sz b k) : Sz (a * b) (j + k) := by
  unfold Sz at *
  rw [Int.natAbs_mul, Nat.pow_add]
  exact Nat.mul_lt_mul'' ha hb
theorem Sz.of_lt {n : Int} {k : Nat} (h : n.natAbs < 65536 ^ k) : Sz n k := h
theorem Sz.le {a b : Int} {k : Nat} (h : Sz b k) (hab : a.natAbs ≤ b.natAbs) : Sz a k := Nat.lt_of_le_of_lt hab h
theorem Sz.i64 {n : Int} (h1 : -9223372036854775808 ≤ n) (h2 : n ≤ 9223372036854775807) : Sz n 4 := by
  unfold Sz; have : (65536 : Nat) ^ 4 = 18446744073709551616 := by decide
  omega
theorem Sz.u64 {n : Int} (h1 : 0 ≤ n) (h2 : n ≤ 18446744073709551615) : Sz n 4 := by
  unfold Sz; have : (65536 : Nat) ^ 4 = 18446744073709551616 := by decide
  omega
end Go.Proofs.Ytgmnboacehopfaa.BM
namespace Go.Proofs.Ytgmnboacehopfaa
open Go.RowKit
set_option linter.unusedSimpArgs false
set_option linter.unusedVariables false

/-- The pieces as values. -/
def u64s (ds : List Nat) : List Value := ds.map fun (d : Nat) => Value.int .u64 (d : Int)
/-- With its sign. -/
def sgn (neg : Bool) (n : Nat) : Int := if neg then -(n : Int) else n
/-- The slice has these pieces. -/
def Pcs (w : World) (ao : Option Addr) (k cap : Nat) (ds : List Nat) : Prop :=
  w.ownsRow 0 30 1 (.slice ao k cap) k (u64s ds) ∧ ds.length = k ∧ BM.Dig ds
theorem Pcs.len {w : World} {ao : Option Addr} {k cap : Nat} {ds : List Nat} (h : Pcs w ao k cap ds) : ds.length = k := h.2.1
theorem Pcs.dig {w : World} {ao : Option Addr} {k cap : Nat} {ds : List Nat} (h : Pcs w ao k cap ds) : BM.Dig ds := h.2.2
theorem Pcs.shape {w : World} {ao : Option Addr} {k cap : Nat} {ds : List Nat} (h : Pcs w ao k cap ds) : k ≤ cap ∧ cap ≤ maxLen := by
  rcases h.1.2 with ⟨e, rfl⟩ | ⟨g, c, cur, e, _, _, h1, h2, _⟩
  · simp at e; omega
  · simp at e; omega
theorem Pcs.nil (w : World) : Pcs w none 0 0 [] := ⟨World.ownsRow_nil _ _ _ _, rfl, BM.Dig.nil⟩
theorem Pcs.cell {w : World} {ao : Option Addr} {k cap : Nat} {ds : List Nat} (h : Pcs w ao k cap ds) (i : Nat) (hi : i < k) :
    ∃ g, ao = some ⟨g, 0, none⟩ ∧ w.cell? ⟨g, i, none⟩ = some (.int .u64 (((ds.getD i 0 : Nat) : Int))) ∧ g < w.heap.size := by
  obtain ⟨h1, h2, h3⟩ := h
  rcases h1.2 with ⟨e, e2⟩ | ⟨g, c, cur, e, _, hg, hl, hm, hs, ht⟩
  · omega
  · obtain ⟨rfl, _⟩ : ao = some ⟨g, 0, none⟩ ∧ cap = c := by simpa using e
    have hc := h1.cells (g := g) rfl i (.int .u64 (((ds.getD i 0 : Nat) : Int))) (by
      unfold u64s
      rw [List.getElem?_map, List.getElem?_eq_getElem (by omega)]
      simp [List.getD, List.getElem?_eq_getElem (show i < ds.length by omega)])
    have hadd : (⟨g, 0, none⟩ : Addr).add i = ⟨g, i, none⟩ := by unfold Addr.add; split <;> simp_all
    rw [hadd] at hc
    refine ⟨g, rfl, hc, ?_⟩
    exact (Array.getElem?_eq_some_iff.1 hg).1
theorem ownsRow_below {w w' : World} {e : TypeId} {size : Nat} {v : Value} {n : Nat} {xs : List Value} (h : w.ownsRow 0 e size v n xs) (hb : Below w.heap.size w w') : w'.ownsRow 0 e size v n xs := by
  refine ⟨h.1, ?_⟩
  rcases h.2 with h | ⟨g, cap, cur, hv, hg, hh, r⟩
  · exact .inl h
  · refine .inr ⟨g, cap, cur, hv, hg, ?_, r⟩
    rw [hb.block g (Array.getElem?_eq_some_iff.1 hh).1]
    exact hh
theorem Pcs.keep {w w' : World} {ao : Option Addr} {k cap : Nat} {ds : List Nat} (h : Pcs w ao k cap ds) (hb : Below w.heap.size w w') : Pcs w' ao k cap ds :=
  ⟨ownsRow_below h.1 hb, h.2⟩
theorem Pcs.take {w : World} {ao : Option Addr} {k cap : Nat} {ds : List Nat} (h : Pcs w ao k cap ds) (j : Nat) (hj : j ≤ k) : Pcs w ao j cap (ds.take j) := by
  obtain ⟨h1, h2, h3⟩ := h
  refine ⟨⟨by simp [u64s, h2]; omega, ?_⟩, by simp [h2]; omega, h3.take j⟩
  rcases h1.2 with ⟨e, e2⟩ | ⟨g, c, cur, e, hb, hg, hl, hm, hs, ht⟩
  · simp at e
    exact .inl ⟨by simp [e]; omega, by omega⟩
  · simp at e
    refine .inr ⟨g, c, cur, by simp [e], hb, hg, by omega, hm, hs, ?_⟩
    have : cur.toList.take (j * 1) = (cur.toList.take (k * 1)).take j := by rw [List.take_take]; congr 1; omega
    rw [this, ht]
    simp [u64s, List.map_take]

/-- All blocks of pieces are as they were. -/
def Keeps (w w' : World) : Prop := ∀ (g : Nat) (cur : Array Value), w.heap[g]? = some (Obj.cells cur 30 (0, 0)) → w'.heap[g]? = some (Obj.cells cur 30 (0, 0))
/-- The block's cells are of this type. -/
def TyAt (w : World) (b : Nat) (T : TypeId) : Prop := ∃ (c : Array Value) (fr : Nat × Nat), w.heap[b]? = some (Obj.cells c T fr)
theorem TyAt.new (w : World) (c : Array Value) (T : TypeId) (b : Nat) (hb : b = w.heap.size) : TyAt (w.alloc (.cells c T)) b T := by
  subst hb
  exact ⟨c, (0, 0), heap_alloc_new w _⟩
theorem TyAt.lt {w : World} {b : Nat} {T : TypeId} (h : TyAt w b T) : b < w.heap.size := by
  obtain ⟨c, fr, h⟩ := h
  exact (Array.getElem?_eq_some_iff.1 h).1
theorem TyAt.alloc {w : World} {b : Nat} {T : TypeId} (h : TyAt w b T) (o : Obj) : TyAt (w.alloc o) b T := by
  have hl := h.lt
  obtain ⟨c, fr, h⟩ := h
  exact ⟨c, fr, by exact (Below.heap_alloc w o _ hl).trans h⟩
theorem TyAt.below {w w' : World} {b : Nat} {T : TypeId} (h : TyAt w b T) (hb : Below w.heap.size w w') : TyAt w' b T := by
  have hl := h.lt
  obtain ⟨c, fr, h⟩ := h
  exact ⟨c, fr, by rw [hb.block b hl]; exact h⟩
theorem TyAt.set {w : World} {b : Nat} {T : TypeId} (h : TyAt w b T) (a : Addr) (u : Value) : TyAt (w.setCell a u) b T := by
  obtain ⟨c, fr, h⟩ := h
  simp only [TyAt, World.setCell, Array.getElem?_modify]
  by_cases e : a.block = b
  · rw [if_pos e, h]
    exact ⟨_, _, rfl⟩
  · rw [if_neg e]
    exact ⟨c, fr, h⟩
theorem TyAt.drew {w : World} {b : Nat} {T : TypeId} (h : TyAt w b T) : TyAt w.drew b T := h
theorem TyAt.drewN {w : World} {b : Nat} {T : TypeId} (h : TyAt w b T) (n : Nat) : TyAt (w.drewN n) b T := h
theorem Keeps.refl (w : World) : Keeps w w := fun _ _ h => h
theorem Keeps.alloc {w w' : World} (h : Keeps w w') (o : Obj) : Keeps w (w'.alloc o) := fun g cur hg => by
  have := h g cur hg
  exact (Below.heap_alloc w' o _ (Array.getElem?_eq_some_iff.1 this).1).trans this
theorem Keeps.drew {w w' : World} (h : Keeps w w') : Keeps w w'.drew := h
theorem Keeps.drewN {w w' : World} (h : Keeps w w') (n : Nat) : Keeps w (w'.drewN n) := h
theorem Keeps.below {w w' w'' : World} (hb : Below w'.heap.size w' w'') (h : Keeps w w') : Keeps w w'' := fun g cur hg => by
  have := h g cur hg
  rw [hb.block g (Array.getElem?_eq_some_iff.1 this).1]; exact this
theorem Keeps.set {w w' : World} (h : Keeps w w') (a : Addr) (u : Value) {T : TypeId} (ht : TyAt w' a.block T) (hT : T ≠ 30) : Keeps w (w'.setCell a u) := fun g cur hg => by
  have h1 := h g cur hg
  obtain ⟨c, fr, h2⟩ := ht
  have hne : g ≠ a.block := by
    intro e
    subst e
    rw [h1] at h2
    simp at h2
    exact hT h2.2.1.symm
  rw [Below.heap_setCell _ _ _ _ hne]; exact h1
theorem Pcs.keeps {w w' : World} {ao : Option Addr} {k cap : Nat} {ds : List Nat} (h : Pcs w ao k cap ds) (hb : Keeps w w') : Pcs w' ao k cap ds := by
  refine ⟨⟨h.1.1, ?_⟩, h.2⟩
  rcases h.1.2 with h | ⟨g, c, cur, hv, hg, hh, r⟩
  · exact .inl h
  · exact .inr ⟨g, c, cur, hv, hg, hb g cur hh, r⟩

/-- How a whole number lies in memory. -/
def IsBig (w : World) (neg : Bool) (ao : Option Addr) (k cap : Nat) (n : Int) : Prop :=
  ∃ ds, Pcs w ao k cap ds ∧ BM.Trim ds ∧ (neg = true → ds ≠ []) ∧ n = sgn neg (BM.bval ds)
theorem IsBig.keep {w w' : World} {neg : Bool} {ao : Option Addr} {k cap : Nat} {n : Int} (h : IsBig w neg ao k cap n) (hb : Below w.heap.size w w') : IsBig w' neg ao k cap n := by
  obtain ⟨ds, h1, h2⟩ := h
  exact ⟨ds, h1.keep hb, h2⟩
theorem IsBig.keeps {w w' : World} {neg : Bool} {ao : Option Addr} {k cap : Nat} {n : Int} (h : IsBig w neg ao k cap n) (hb : Keeps w w') : IsBig w' neg ao k cap n := by
  obtain ⟨ds, h1, h2⟩ := h
  exact ⟨ds, h1.keeps hb, h2⟩
/-- What a function answers that gives back a whole number. -/
def BigRet (n : Int) (w : World) (e : Ending) (w' : World) : Prop :=
  ∃ neg ao k cap, e = .returned (.agg #[.bool neg, .slice ao k cap]) ∧ IsBig w' neg ao k cap n ∧ Below w.heap.size w w'

set_option maxRecDepth 100000 in
set_option maxHeartbeats 400000 in
theorem big_trim (neg : Bool) (ao : Option Addr) (k cap : Nat) (ds : List Nat) (w : World) (h : Pcs w ao k cap ds) (hk : k ≤ 1000000) :
    Calls Try.prog 71 #[.agg #[.bool neg, .slice ao k cap]] w (BigRet (sgn neg (BM.bval ds)) w) := by
  have hcap := h.shape
  go_enter Try.func71, Try.ntmps71
  go_wp2
  go_loopg [] k (fun g wr => ∃ j : Nat, j ≤ k ∧ g = j ∧ (w.alloc (.cells #[.bool neg, .slice ao j cap] 100)).alloc (.cells #[.bool false, .slice none 0 0] 100) = wr ∧ BM.bval (ds.take j) = BM.bval ds)
  case atStart => exact ⟨k, Nat.le_refl _, rfl, rfl, by rw [List.take_of_length_le (by rw [h.len]; exact Nat.le_refl _)]⟩
  case round =>
    obtain ⟨j, hj, rfl, rfl, hv⟩ := hrel
    have HV := Lib.hid hv
    clear hv
    by_cases hj0 : gk = 0
    · subst hj0
      go_wp2
      simp [bodyPost, results, Try.results71, go_sem]
      have e0 : BM.bval ds = 0 := by rw [← HV.out]; rfl
      exact ⟨false, ao, 0, cap, rfl, ⟨[], (h.take 0 (Nat.zero_le _)).keep (by repeat' (first | (with_reducible exact Below.refl _ _) | (with_reducible assumption) | (with_reducible refine below_alloc ?_ _ ?_) | (with_reducible refine below_set _ ?_ ?_) | (with_reducible refine Below.drew ?_) | (with_reducible refine below_dN ?_ _) | (apply below_thenA; assumption) | omega | (simp; done) | (simp; omega) | (simp [*]; done))), BM.Trim.nil, fun h => (by cases h), by rw [e0]; cases neg <;> rfl⟩, (by repeat' (first | (with_reducible exact Below.refl _ _) | (with_reducible assumption) | (with_reducible refine below_alloc ?_ _ ?_) | (with_reducible refine below_set _ ?_ ?_) | (with_reducible refine Below.drew ?_) | (with_reducible refine below_dN ?_ _) | (apply below_thenA; assumption) | omega | (simp; done) | (simp; omega) | (simp [*]; done)))⟩
    · obtain ⟨g, rfl, hc, hg⟩ := h.cell (gk - 1) (by omega)
      have HD := h.dig.getD (gk - 1)
      obtain ⟨d, hd⟩ : ∃ d, d = ds.getD (gk - 1) 0 := ⟨_, rfl⟩
      rw [← hd] at hc HD
      have HDD := Lib.hid hd
      clear hd
      have hg1 : g < w.heap.size + 1 := by omega
      have hg2 : g ≤ w.heap.size := by omega
      have hj1 : 0 < gk := by omega
      by_cases h0 : d = 0
      · subst h0
        go_wp2
        go_roundg (gk - 1)
        case measure => omega
        case rel =>
          refine ⟨gk - 1, by omega, rfl, rfl, ?_⟩
          have e : gk = gk - 1 + 1 := by omega
          have hl : gk - 1 < ds.length := by rw [h.len]; omega
          have hz : ds[gk - 1] = 0 := by have := HDD.out; simp [List.getD, hl] at this; exact this.symm
          rw [← HV.out, e, BM.bval_take_succ ds (gk - 1) hl, hz]
          simp
      · have h0' : ((d : Int) == 0) = false := by simp [h0]
        go_wp2
        simp [bodyPost, results, Try.results71, go_sem]
        have hl : gk - 1 < ds.length := by rw [h.len]; omega
        have hz : ds[gk - 1] ≠ 0 := by have := HDD.out; simp [List.getD, hl] at this; omega
        have ht : BM.Trim (ds.take gk) := by
          intro hne
          have hlen : (ds.take gk).length = gk := by rw [List.length_take]; omega
          rw [List.getLast_eq_getElem]
          simp only [hlen, List.getElem_take]
          exact hz
        have hne : ds.take gk ≠ [] := by
          intro e
          have hlen : (ds.take gk).length = gk := by rw [List.length_take]; omega
          rw [e] at hlen
          simp at hlen
          omega
        exact ⟨neg, _, gk, cap, rfl, ⟨ds.take gk, (h.take gk hj).keep (by repeat' (first | (with_reducible exact Below.refl _ _) | (with_reducible assumption) | (with_reducible refine below_alloc ?_ _ ?_) | (with_reducible refine below_set _ ?_ ?_) | (with_reducible refine Below.drew ?_) | (with_reducible refine below_dN ?_ _) | (apply below_thenA; assumption) | omega | (simp; done) | (simp; omega) | (simp [*]; done))), ht, fun _ => hne, by rw [HV.out]⟩, (by repeat' (first | (with_reducible exact Below.refl _ _) | (with_reducible assumption) | (with_reducible refine below_alloc ?_ _ ?_) | (with_reducible refine below_set _ ?_ ?_) | (with_reducible refine Below.drew ?_) | (with_reducible refine below_dN ?_ _) | (apply below_thenA; assumption) | omega | (simp; done) | (simp; omega) | (simp [*]; done)))⟩
end Go.Proofs.Ytgmnboacehopfaa
namespace Go.Proofs.Ytgmnboacehopfaa
open Go.RowKit
set_option linter.unusedSimpArgs false
set_option linter.unusedVariables false

def cmpN (a b : Nat) : Int := if a < b then -1 else if b < a then 1 else 0
theorem cmpN_lt {a b : Nat} (h : a < b) : cmpN a b = -1 := if_pos h
theorem cmpN_gt {a b : Nat} (h : b < a) : cmpN a b = 1 := by unfold cmpN; rw [if_neg (by omega), if_pos h]
theorem cmpN_eq {a b : Nat} (h : a = b) : cmpN a b = 0 := by unfold cmpN; rw [if_neg (by omega), if_neg (by omega)]

set_option maxRecDepth 100000 in
set_option maxHeartbeats 400000 in
theorem big_sizes (ao bo : Option Addr) (k m cap cap' : Nat) (xs ys : List Nat) (w : World) (ha : Pcs w ao k cap xs) (hb : Pcs w bo m cap' ys) (ta : BM.Trim xs) (tb : BM.Trim ys) (hk : k ≤ 1000000) (hm : m ≤ 1000000) :
    Calls Try.prog 72 #[.slice ao k cap, .slice bo m cap'] w fun e w' => e = .returned (.int .i64 (cmpN (BM.bval xs) (BM.bval ys))) ∧ Below w.heap.size w w' := by
  have la := ha.len
  have lb := hb.len
  have LA := Lib.hid la
  have LB := Lib.hid lb
  clear la lb
  rcases Nat.lt_trichotomy k m with hlt | rfl | hgt
  · have e := cmpN_lt (BM.len_lt_bval ha.dig tb (by rw [LA.out, LB.out]; exact hlt))
    have E := Lib.hid e
    clear e
    have hne : ((k : Int) != (m : Int)) = true := by simp; omega
    go_enter Try.func72, Try.ntmps72
    go_wp2
    go_ret
    exact ⟨ret_int (by rw [E.out]), (by repeat' (first | (with_reducible exact Below.refl _ _) | (with_reducible assumption) | (with_reducible refine below_alloc ?_ _ ?_) | (with_reducible refine below_set _ ?_ ?_) | (with_reducible refine Below.drew ?_) | (with_reducible refine below_dN ?_ _) | (apply below_thenA; assumption) | omega | (simp; done) | (simp; omega) | (simp [*]; done)))⟩
  · have HQ : Hid (∀ i, i < k → xs.getD i 0 < 65536 ∧ ys.getD i 0 < 65536) := fun i _ => ⟨ha.dig.getD i, hb.dig.getD i⟩
    go_enter Try.func72, Try.ntmps72
    go_wp2
    go_loopg [5] k (fun g s wr => ∃ (j n : Nat), j ≤ k ∧ g = j ∧ s = .int .i64 ((j : Int) - 1) ∧ w.drewN n = wr ∧ xs.drop j = ys.drop j)
    case atStart => exact ⟨k, 0, Nat.le_refl _, rfl, rfl, rfl, by rw [List.drop_eq_nil_of_le (by rw [LA.out]; exact Nat.le_refl _), List.drop_eq_nil_of_le (by rw [LB.out]; exact Nat.le_refl _)]⟩
    case round =>
      obtain ⟨j, n, hj, rfl, rfl, rfl, hd⟩ := hrel
      have HD := Lib.hid hd
      clear hd
      by_cases hj0 : gk = 0
      · subst hj0
        have e : BM.bval xs = BM.bval ys := by have := HD.out; simp at this; rw [this]
        have E := Lib.hid (cmpN_eq e)
        clear e
        go_wp2
        go_ret
        exact ⟨ret_int (by rw [E.out]), (by repeat' (first | (with_reducible exact Below.refl _ _) | (with_reducible assumption) | (with_reducible refine below_alloc ?_ _ ?_) | (with_reducible refine below_set _ ?_ ?_) | (with_reducible refine Below.drew ?_) | (with_reducible refine below_dN ?_ _) | (apply below_thenA; assumption) | omega | (simp; done) | (simp; omega) | (simp [*]; done)))⟩
      · obtain ⟨g, rfl, hc, hg⟩ := ha.cell (gk - 1) (by omega)
        obtain ⟨g', rfl, hc', hg'⟩ := hb.cell (gk - 1) (by omega)
        have hla : gk - 1 < xs.length := by rw [LA.out]; omega
        have hlb : gk - 1 < ys.length := by rw [LB.out]; omega
        have ga : xs.getD (gk - 1) 0 = xs[gk - 1] := by simp [List.getD, hla]
        have gb : ys.getD (gk - 1) 0 = ys[gk - 1] := by simp [List.getD, hlb]
        have es : xs.drop (gk - 1 + 1) = ys.drop (gk - 1 + 1) := by rw [show gk - 1 + 1 = gk by omega]; exact HD.out
        have CL := Lib.hid (BM.bval_cmp_at ha.dig (gk - 1) hla hlb es)
        have CG := Lib.hid (BM.bval_cmp_at hb.dig (gk - 1) hlb hla es.symm)
        rw [← ga, ← gb] at CL CG
        have RR := Lib.hid (show xs.getD (gk - 1) 0 = ys.getD (gk - 1) 0 → xs.drop (gk - 1) = ys.drop (gk - 1) from fun h => by
          rw [List.drop_eq_getElem_cons hla, List.drop_eq_getElem_cons hlb, es, ← ga, ← gb, h])
        clear ga gb es hla hlb
        obtain ⟨x, hx⟩ : ∃ x, x = xs.getD (gk - 1) 0 := ⟨_, rfl⟩
        obtain ⟨y, hy⟩ : ∃ y, y = ys.getD (gk - 1) 0 := ⟨_, rfl⟩
        rw [← hx] at hc CL CG RR
        rw [← hy] at hc' CL CG RR
        clear hx hy
        have hj1 : 0 < gk := by omega
        have i1 : 0 ≤ (gk : Int) - 1 := by omega
        have i2 : (gk : Int) - 1 < (k : Int) := by omega
        rcases Nat.lt_trichotomy x y with hl | hl | hl
        · have e := Lib.hid (cmpN_lt (CL.out hl))
          have hl' : (x : Int) < (y : Int) := by omega
          clear hl
          go_wp2
          go_quiet (fail)
          go_wp2
          go_ret
          exact ⟨ret_int (by rw [e.out]), (by repeat' (first | (with_reducible exact Below.refl _ _) | (with_reducible assumption) | (with_reducible refine below_alloc ?_ _ ?_) | (with_reducible refine below_set _ ?_ ?_) | (with_reducible refine Below.drew ?_) | (with_reducible refine below_dN ?_ _) | (apply below_thenA; assumption) | omega | (simp; done) | (simp; omega) | (simp [*]; done)))⟩
        · subst hl
          go_wp2
          go_quiet (fail)
          go_wp2
          go_quiet (fail)
          go_wp2
          go_roundg (gk - 1)
          case measure => omega
          case rel =>
            exact ⟨gk - 1, _, by omega, rfl, by congr 1; omega, rfl, RR.out (by first | trivial | rfl)⟩
        · have e := Lib.hid (cmpN_gt (CG.out hl))
          have hl' : (y : Int) < (x : Int) := by omega
          clear hl
          go_wp2
          go_quiet (fail)
          go_wp2
          go_quiet (fail)
          go_wp2
          go_ret
          exact ⟨ret_int (by rw [e.out]), (by repeat' (first | (with_reducible exact Below.refl _ _) | (with_reducible assumption) | (with_reducible refine below_alloc ?_ _ ?_) | (with_reducible refine below_set _ ?_ ?_) | (with_reducible refine Below.drew ?_) | (with_reducible refine below_dN ?_ _) | (apply below_thenA; assumption) | omega | (simp; done) | (simp; omega) | (simp [*]; done)))⟩
  · have e := cmpN_gt (BM.len_lt_bval hb.dig ta (by rw [LA.out, LB.out]; exact hgt))
    have E := Lib.hid e
    clear e
    have hne : ((k : Int) != (m : Int)) = true := by simp; omega
    go_enter Try.func72, Try.ntmps72
    go_wp2
    go_ret
    exact ⟨ret_int (by rw [E.out]), (by repeat' (first | (with_reducible exact Below.refl _ _) | (with_reducible assumption) | (with_reducible refine below_alloc ?_ _ ?_) | (with_reducible refine below_set _ ?_ ?_) | (with_reducible refine Below.drew ?_) | (with_reducible refine below_dN ?_ _) | (apply below_thenA; assumption) | omega | (simp; done) | (simp; omega) | (simp [*]; done)))⟩
end Go.Proofs.Ytgmnboacehopfaa
