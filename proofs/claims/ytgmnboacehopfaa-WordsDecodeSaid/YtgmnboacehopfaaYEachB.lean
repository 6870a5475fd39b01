/-
  Regions whose order is left open, by claims, some of which tell of two operations' values.
-/
import Derived.Test.YtgmnboacehopfaaZ1
import Derived.Test.YtgmnboacehopfaaYApp
namespace Go.Proofs.Ytgmnboacehopfaa
open Go Go.RowKit
namespace EB
section
variable {P : Program} {ops : Array Oper} {Q : Exit → Act → World → Prop} {md : Region.Mode}

/-- What an operation leaves: a value of which something holds; or something holds now of another one's value. -/
inductive Cl
  | any
  | own (R : Value → World → Prop) (h : Stays R)
  | at (j : Nat) (R : Value → World → Prop) (h : Stays R)
  | both (j : Nat) (R : Value → Value → World → Prop) (h : ∀ u, Stays (R u))
def Cl.holds (i : Nat) (vs : Nat → Value) (w : World) : Cl → Prop
  | .any => True
  | .own R _ => R (vs i) w
  | .at j R _ => R (vs j) w
  | .both j R _ => R (vs i) (vs j) w
def Cl.looks : Cl → Option Nat
  | .at j _ _ => some j
  | .both j _ _ => some j
  | _ => none
theorem Cl.below {i : Nat} {vs : Nat → Value} {w w' : World} (hb : Below w.heap.size w w') : ∀ c : Cl, c.holds i vs w → c.holds i vs w'
  | .any, _ => trivial
  | .own _ h, x => h _ _ _ x hb
  | .at _ _ h, x => h _ _ _ x hb
  | .both _ _ h, x => h _ _ _ _ x hb
theorem Cl.upd_ne {k i : Nat} {vs : Nat → Value} {v : Value} {w : World} (hk : k ≠ i) : ∀ c : Cl, c.looks ≠ some i → c.holds k vs w → c.holds k (upd vs i v) w
  | .any, _, _ => trivial
  | .own _ _, _, x => by simp only [Cl.holds, Go.Proofs.Ytgmnboacehopfaa.upd_ne vs i v k hk] at x ⊢; exact x
  | .at j _ _, h, x => by
    have hj : j ≠ i := fun e => h (by rw [e]; rfl)
    simp only [Cl.holds, Go.Proofs.Ytgmnboacehopfaa.upd_ne vs i v j hj] at x ⊢; exact x
  | .both j R _, h, x => by
    have hj : j ≠ i := fun e => h (by rw [e]; rfl)
    simp only [Cl.holds, Go.Proofs.Ytgmnboacehopfaa.upd_ne vs i v k hk, Go.Proofs.Ytgmnboacehopfaa.upd_ne vs i v j hj] at x ⊢; exact x
def claim (cls : List Cl) (k : Nat) (vs : Nat → Value) (w : World) : Prop := (cls.getD k .any).holds k vs w
/-- What a claim looks at comes ahead of its operation. -/
def looksOk (os : List Oper) (ls : List (Option Nat)) : Bool :=
  (List.range os.length).all fun k => match ls.getD k none with | some j => anc os.toArray os.length k j | none => true
theorem looksOk_spec {os : List Oper} {cls : List Cl} (h : looksOk os (cls.map Cl.looks) = true) {k j : Nat} (hk : k < os.length) (hj : (cls.getD k .any).looks = some j) : anc os.toArray os.length k j = true := by
  unfold looksOk at h
  have := List.all_eq_true.1 h k (List.mem_range.2 hk)
  have e : (cls.map Cl.looks).getD k none = (cls.getD k .any).looks := by
    simp only [List.getD, List.getElem?_map]
    cases cls[k]? <;> rfl
  rw [e, hj] at this
  exact this
def isPtr (v : Value) (b : Nat) : Prop := v = .pointer (some ⟨b, 0, none⟩)
/-- One operation: it leaves a value that is as it should be; whatever is known lasts: since nothing that stood is touched (hK; hA where a new box is made), or for each by itself (hL). B holds all along; B0 till an operation of ST has come up. -/
def StepAt (P : Program) (Q : Exit → Act → World → Prop) (os : List Oper) (a : Act) (B : World → Prop) (ST : List Nat) (B0 : World → Prop) (cls : List Cl) (AL : List Nat) (i : Nat) (o : Oper) : Prop :=
  ∀ vs w, B w → ((ST.all fun s => s == i || anc os.toArray os.length s i) = true → B0 w) → (∀ k, anc os.toArray os.length i k = true → claim cls k vs w) →
    (∀ j k, j ≠ k → (AL.contains j && AL.contains k && anc os.toArray os.length i j && anc os.toArray os.length i k) = true → vs j ≠ vs k) →
    (∀ k, (k == i || anc os.toArray os.length k i) = true → vs k = held os a k) → ∀ K : Act → World → Prop,
    Shut (AL.contains i = false → ∀ v w', Below w.heap.size w w' → claim cls i (upd vs i v) w' → K ((puts os 0 vs a).put o.dst v) w') →
    Shut (∀ b w', Below w.heap.size w w' → w.heap.size ≤ b → claim cls i (upd vs i (.pointer (some ⟨b, 0, none⟩))) w' → K ((puts os 0 vs a).put o.dst (.pointer (some ⟨b, 0, none⟩))) w') →
    Shut (AL.contains i = false → ∀ v w', B w' → (ST.contains i = false → B0 w') → claim cls i (upd vs i v) w' → (∀ j, j ≠ i → anc os.toArray os.length j i = false → claim cls j vs w → claim cls j vs w') → K ((puts os 0 vs a).put o.dst v) w') →
    if Region.wanted o (yielded os.toArray (puts os 0 vs a).tmps) = true then Oper.wp P o (puts os 0 vs a) w K Q else K ((puts os 0 vs a).put o.dst undef) w
theorem wp_region_cl {os : List Oper} {id : Nat} {a : Act} {w : World} (B : World → Prop) (ST : List Nat) (B0 : World → Prop) (cls : List Cl) (AL : List Nat)
    (hm : P.follows .mixedOrders = true) (he : earlier os.toArray = true) (hn : nodupB (dsts os) = true) (hU : looksOk os (cls.map Cl.looks) = true) (hB : B w.drew) (hB0 : B0 w.drew)
    (hBE : ∀ w w', B w → Below w.heap.size w w' → B w') (hBE0 : ∀ w w', B w → B0 w → Below w.heap.size w w' → B0 w')
    (hAL : ∀ k vs w, AL.contains k = true → claim cls k vs w → ∃ b, isPtr (vs k) b ∧ b < w.heap.size)
    (step : Each os.toArray (StepAt P Q os a B ST B0 cls AL) os 0)
    (fin : ∀ vs w, B w → (∀ i, i < os.length → claim cls i vs w) → (∀ j k, j ≠ k → j < os.length → k < os.length → (AL.contains j && AL.contains k) = true → vs j ≠ vs k) → Q .normal (puts os 0 vs a) w) :
    (Code.region id os.toArray true).wp P Q a w := by
  have hsz : os.toArray.size = os.length := by simp
  refine wp_region_any hm ?_
  refine wpAny_inv he (fun listed a' w => ∃ vs, a' = puts os 0 vs a ∧ B w ∧ ((∀ s, ST.contains s = true → listed.getD s false = false) → B0 w) ∧ (∀ i, listed.getD i false = true → claim cls i vs w) ∧ (∀ i, listed.getD i false = false → vs i = held os a i) ∧
    (∀ j k, j ≠ k → (AL.contains j && AL.contains k) = true → listed.getD j false = true → listed.getD k false = true → vs j ≠ vs k)) ?_ ?_ _ _ _ _ (by simp) ?_ (by simp)
    ⟨held os a, ?_, hB, fun _ => hB0, ?_, fun _ _ => rfl, ?_⟩
  · rintro listed a' w hs hc ⟨vs, rfl, hB, hS, hV, hold, hne⟩ i hi
    obtain ⟨h1, o, ho, hdep⟩ := mem_ready.1 hi
    have hlt : i < os.toArray.size := (Array.getElem?_eq_some_iff.1 ho).1
    have hl : i < listed.size := by omega
    have h2 : listed.getD i false = false := by simp [hl] at h1 ⊢; exact h1
    have ho' : os[i]? = some o := by simpa using ho
    have hanc : ∀ k, anc os.toArray os.length i k = true → listed.getD k false = true := fun k hk => anc_listed hc _ i k (fun o' ho'' => by
      rw [ho] at ho''
      obtain rfl := Option.some.inj ho''
      exact hdep) hk
    have hnot : ∀ j, listed.getD j false = true → anc os.toArray os.length j i = false := fun j hj => by
      cases ha : anc os.toArray os.length j i with
      | false => rfl
      | true =>
        have := anc_listed hc _ j i (fun o' ho' => hc j o' ho' hj) ha
        rw [h2] at this; cases this
    have hlooks : ∀ j, listed.getD j false = true → (cls.getD j .any).looks ≠ some i := fun j hj e => by
      have hjl : j < os.length := by
        have hjs : j < listed.size := by
          rcases Nat.lt_or_ge j listed.size with h' | h'
          · exact h'
          · rw [Array.getD_eq_getD_getElem?, Array.getElem?_eq_none h'] at hj; cases hj
        omega
      have := looksOk_spec hU hjl e
      rw [hnot j hj] at this; cases this
    have hji : ∀ j, (listed.setIfInBounds i true).getD j false = true → j ≠ i → listed.getD j false = true := fun j hj h => by
      rwa [getD_set_ne false (fun x => h x.symm)] at hj
    have hneU : ∀ v, (AL.contains i = true → ∃ b, v = .pointer (some ⟨b, 0, none⟩) ∧ w.heap.size ≤ b) →
        ∀ j k, j ≠ k → (AL.contains j && AL.contains k) = true → (listed.setIfInBounds i true).getD j false = true → (listed.setIfInBounds i true).getD k false = true → upd vs i v j ≠ upd vs i v k := by
      intro v hv j k hjk hal hj hk
      rw [Bool.and_eq_true] at hal
      by_cases h1 : j = i
      · subst h1
        have hki : k ≠ j := fun h => hjk h.symm
        rw [upd_self, upd_ne vs j v k hki]
        obtain ⟨b, rfl, hb⟩ := hv hal.1
        obtain ⟨b', e', hb'⟩ := hAL k vs w hal.2 (hV k (hji k hk hki))
        unfold isPtr at e'
        rw [e']
        intro e; simp at e <;> omega
      · by_cases h3 : k = i
        · subst h3
          rw [upd_self, upd_ne vs k v j h1]
          obtain ⟨b, rfl, hb⟩ := hv hal.2
          obtain ⟨b', e', hb'⟩ := hAL j vs w hal.1 (hV j (hji j hj h1))
          unfold isPtr at e'
          rw [e']
          intro e; simp at e <;> omega
        · rw [upd_ne vs i v j h1, upd_ne vs i v k h3]
          exact hne j k hjk (by rw [Bool.and_eq_true]; exact hal) (hji j hj h1) (hji k hk h3)
    refine wpOp_step ho (fun K hK => ?_)
    have hs1 := Each.at os 0 step i o ho'
    rw [Nat.zero_add] at hs1
    have hnst : (ST.all fun s => s == i || anc os.toArray os.length s i) = true → ∀ s, ST.contains s = true → listed.getD s false = false := by
      intro h s hs
      have h1 := List.all_eq_true.1 h s (by simpa using hs)
      rw [Bool.or_eq_true] at h1
      rcases h1 with h1 | h1
      · obtain rfl : s = i := by simpa using h1
        exact h2
      · cases hg : listed.getD s false with
        | false => rfl
        | true => rw [hnot s hg] at h1; cases h1
    have hup : (∀ s, ST.contains s = true → (listed.setIfInBounds i true).getD s false = false) → ST.contains i = false ∧ ∀ s, ST.contains s = true → listed.getD s false = false := by
      intro h
      refine ⟨?_, fun s hs => ?_⟩
      · cases hg : ST.contains i with
        | false => rfl
        | true => have := h i hg; rw [getD_self hl] at this; cases this
      · cases hg : listed.getD s false with
        | false => rfl
        | true => have := h s hs; rw [getD_set_true hg] at this; cases this
    have hholdU : ∀ v j, (listed.setIfInBounds i true).getD j false = false → upd vs i v j = held os a j := by
      intro v j hj
      have hji' : j ≠ i := fun e => by subst e; rw [getD_self hl] at hj; cases hj
      rw [upd_ne vs i v j hji']
      rw [getD_set_ne false (fun x => hji' x.symm)] at hj
      exact hold j hj
    have hholdI : ∀ k, (k == i || anc os.toArray os.length k i) = true → vs k = held os a k := by
      intro k hk
      refine hold k ?_
      rw [Bool.or_eq_true] at hk
      rcases hk with h | h
      · obtain rfl : k = i := by simpa using h
        exact h2
      · cases hg : listed.getD k false with
        | false => rfl
        | true => rw [hnot k hg] at h; cases h
    refine hs1 vs w hB (fun h => hS (hnst h)) (fun k hk => hV k (hanc k hk)) (fun j k hjk h => ?_) hholdI K (fun hal v w' hb hv => ?_) (fun b w' hb hbl hv => ?_) (fun hal v w' hB' hB0' hv hr => ?_)
    · simp only [Bool.and_eq_true] at h
      exact hne j k hjk (by rw [Bool.and_eq_true]; exact ⟨h.1.1.1, h.1.1.2⟩) (hanc j h.1.2) (hanc k h.2)
    · rw [puts_upd os 0 i o vs v a hn ho', Nat.zero_add]
      refine hK _ _ ⟨upd vs i v, rfl, hBE w w' hB hb, fun h => hBE0 w w' hB (hS (hup h).2) hb, fun j hj => ?_, hholdU _, hneU v (fun h => by rw [hal] at h; cases h)⟩
      by_cases h : j = i
      · subst h; exact hv
      · exact Cl.upd_ne h _ (hlooks j (hji j hj h)) (Cl.below hb _ (hV j (hji j hj h)))
    · rw [puts_upd os 0 i o vs _ a hn ho', Nat.zero_add]
      refine hK _ _ ⟨upd vs i _, rfl, hBE w w' hB hb, fun h => hBE0 w w' hB (hS (hup h).2) hb, fun j hj => ?_, hholdU _, hneU _ (fun h => ⟨b, rfl, hbl⟩)⟩
      by_cases h : j = i
      · subst h; exact hv
      · exact Cl.upd_ne h _ (hlooks j (hji j hj h)) (Cl.below hb _ (hV j (hji j hj h)))
    · rw [puts_upd os 0 i o vs v a hn ho', Nat.zero_add]
      refine hK _ _ ⟨upd vs i v, rfl, hB', fun h => hB0' (hup h).1, fun j hj => ?_, hholdU _, hneU v (fun h => by rw [hal] at h; cases h)⟩
      by_cases h : j = i
      · subst h; exact hv
      · exact Cl.upd_ne h _ (hlooks j (hji j hj h)) (hr j h (hnot j (hji j hj h)) (hV j (hji j hj h)))
  · rintro listed a' w hall ⟨vs, rfl, hB, hS, hV, _, hne⟩
    rw [hsz] at hall
    exact fin vs w hB (fun i hi => hV i (hall i hi)) (fun j k hjk hj hk hal => hne j k hjk hal (hall j hj) (hall k hk))
  · intro i o _ h
    rw [Array.getD_eq_getD_getElem?, Array.getElem?_replicate] at h
    split at h <;> simp at h
  · refine (puts_held os 0 _ a fun j o ho => ?_).symm
    rw [Nat.zero_add]
    unfold held
    rw [ho]
  · intro i h
    rw [Array.getD_eq_getD_getElem?, Array.getElem?_replicate] at h
    split at h <;> simp at h
  · intro j k _ _ h
    rw [Array.getD_eq_getD_getElem?, Array.getElem?_replicate] at h
    split at h <;> simp at h
/-- The same, where no operation panics. -/
theorem wp_region_calm {os : List Oper} {id : Nat} {a : Act} {w : World} (B : World → Prop) (ST : List Nat) (B0 : World → Prop) (cls : List Cl) (AL : List Nat)
    (hm : P.follows .mixedOrders = true) (he : earlier os.toArray = true) (hn : nodupB (dsts os) = true) (hU : looksOk os (cls.map Cl.looks) = true) (hB : B w.drew) (hB0 : B0 w.drew)
    (hBE : ∀ w w', B w → Below w.heap.size w w' → B w') (hBE0 : ∀ w w', B w → B0 w → Below w.heap.size w w' → B0 w')
    (hAL : ∀ k vs w, AL.contains k = true → claim cls k vs w → ∃ b, isPtr (vs k) b ∧ b < w.heap.size)
    (step : ∀ Q : Exit → Act → World → Prop, Each os.toArray (StepAt P Q os a B ST B0 cls AL) os 0)
    (fin : ∀ vs w, B w → (∀ i, i < os.length → claim cls i vs w) → (∀ j k, j ≠ k → j < os.length → k < os.length → (AL.contains j && AL.contains k) = true → vs j ≠ vs k) → Q .normal (puts os 0 vs a) w) :
    (Code.region id os.toArray true).wp P Q a w :=
  wp_region_cl B ST B0 cls AL hm he hn hU hB hB0 hBE hBE0 hAL (step Q) fin
/-- Each claim but one lasts from one world to another. -/
def KeepAll (i : Nat) (vs : Nat → Value) (w w' : World) : List Cl → Nat → Prop
  | [], _ => True
  | c :: cs, k => (k = i ∨ (c.holds k vs w → c.holds k vs w')) ∧ KeepAll i vs w w' cs (k + 1)
theorem keep_all {i : Nat} {vs : Nat → Value} {w w' : World} : ∀ {cls : List Cl} {k : Nat}, KeepAll i vs w w' cls k → ∀ j, k + j ≠ i → (cls.getD j .any).holds (k + j) vs w → (cls.getD j .any).holds (k + j) vs w'
  | [], _, _, j, _, h => by simp [Cl.holds]
  | c :: cs, k, hk, j, hj, h => by
    cases j with
    | zero => exact (hk.1.resolve_left hj) h
    | succ j =>
      have := keep_all (cls := cs) (k := k + 1) hk.2 j (by omega)
      rw [show k + 1 + j = k + (j + 1) by omega] at this
      exact this h
theorem claims_keep {i : Nat} {vs : Nat → Value} {w w' : World} {cls : List Cl} {p : Nat → Prop} (h : KeepAll i vs w w' cls 0) : ∀ j, j ≠ i → p j → claim cls j vs w → claim cls j vs w' := fun j hj _ hc => by
  have := keep_all h j (by omega)
  rw [Nat.zero_add] at this
  exact this hc
/-- A value is this one. -/
def Is (v : Value) : Cl := .own (fun u _ => u = v) (fun _ _ _ h _ => h)
theorem is_keep {v : Value} {k : Nat} {vs : Nat → Value} {w w' : World} (h : (Is v).holds k vs w) : (Is v).holds k vs w' := h
end
def KeepA (os : Array Oper) (n i : Nat) (vs : Nat → Value) (w w' : World) : List Cl → Nat → Prop
  | [], _ => True
  | c :: cs, k => (k = i ∨ anc os n k i = true ∨ (c.holds k vs w → c.holds k vs w')) ∧ KeepA os n i vs w w' cs (k + 1)
theorem keep_a {os : Array Oper} {n i : Nat} {vs : Nat → Value} {w w' : World} : ∀ {cls : List Cl} {k : Nat}, KeepA os n i vs w w' cls k → ∀ j, k + j ≠ i → anc os n (k + j) i = false → (cls.getD j .any).holds (k + j) vs w → (cls.getD j .any).holds (k + j) vs w'
  | [], _, _, j, _, _, h => by simp [Cl.holds]
  | c :: cs, k, hk, j, hj, ha, h => by
    cases j with
    | zero =>
      rcases hk.1 with h1 | h1 | h1
      · exact absurd h1 hj
      · rw [Nat.add_zero] at ha; rw [h1] at ha; cases ha
      · exact h1 h
    | succ j =>
      have := keep_a (cls := cs) (k := k + 1) hk.2 j (by omega) (by rw [show k + 1 + j = k + (j + 1) by omega]; exact ha)
      rw [show k + 1 + j = k + (j + 1) by omega] at this
      exact this h
theorem claims_keep_a {os : Array Oper} {n i : Nat} {vs : Nat → Value} {w w' : World} {cls : List Cl} (h : KeepA os n i vs w w' cls 0) : ∀ j, j ≠ i → anc os n j i = false → claim cls j vs w → claim cls j vs w' := fun j hj ha hc => by
  have := keep_a h j (by omega)
  rw [Nat.zero_add] at this
  exact this ha hc
def sliW (B : Nat) (T : TypeId) (cs : List Value) : Cl := .own (SliW B T cs) (fun _ _ _ h hb => by obtain ⟨b, e, h1, h2⟩ := h; exact ⟨b, e, h1, h2.below hb⟩)
def ownW (H : Nat) (T : TypeId) (s n : Nat) (xs : List Value) : Cl := .own (OwnVW H T s n xs) (fun _ _ _ h hb => by obtain ⟨a, c, e, h⟩ := h; exact ⟨a, c, e, h.below hb⟩)
end EB
end Go.Proofs.Ytgmnboacehopfaa
