/-
  Flex sizes: where no limit is met and the factors are enough the room is filled, in plain numbers.
-/
import Derived.Test.YthofammjbicogaaYFxV
namespace Go.Proofs.Ythofammjbicogaa
open Go.RowKit
set_option linter.unusedSimpArgs false
set_option linter.unusedVariables false

theorem sumU_all : ∀ (l : List Fl) (ps : List Int), (∀ i, i < l.length → (l.getD i fl0).fi = true → ps.getD i 0 = 0) → sumU l ps = pre ps l.length
  | [], ps, _ => rfl
  | x :: l, ps, h => by
    rw [List.length_cons, pre_hd]
    have h0 := h 0 (by simp)
    have ih := sumU_all l ps.tail (fun i hi hf => by
      have := h (i + 1) (by simpa using hi) hf
      have e : ps.getD (i + 1) 0 = ps.tail.getD i 0 := by cases ps <;> simp [List.getD]
      rw [← e]; exact this)
    have e0 : ps.getD 0 0 = ps.headD 0 := by cases ps <;> simp [List.getD]
    unfold sumU
    rw [ih]
    cases hx : x.fi
    · simp
    · have := h0 hx
      rw [e0] at this
      rw [this]
      simp
def wgtV (g : Bool) (x : Fl) : Int := if x.fi then 0 else if g then x.fa else x.fa * x.it.base
theorem wgtsO_val {g : Bool} : ∀ {st : List Fl} {ws : List Int}, wgtsO g st = some ws → ws = st.map (wgtV g)
  | [], ws, h => by cases h; rfl
  | x :: st, ws, h => by
    rw [wgtsO] at h
    cases h1 : wgtO g x with
    | none => rw [h1] at h; cases h
    | some y =>
      rw [h1, Option.bind_some] at h
      cases h2 : wgtsO g st with
      | none => rw [h2] at h; cases h
      | some ys =>
        rw [h2] at h
        cases h
        rw [List.map_cons, ← wgtsO_val h2]
        congr 1
        unfold wgtO at h1
        unfold wgtV
        split at h1
        · rename_i e; cases h1; rw [if_pos e]
        · rename_i e
          rw [if_neg e]
          split at h1
          · rename_i e2; cases h1; rw [if_pos e2]
          · rename_i e2
            rw [if_neg e2]
            split at h1
            · cases h1; rfl
            · cases h1
theorem pre_sm (f : Fl → Int) : ∀ st : List Fl, pre (st.map f) st.length = sm f st
  | [] => rfl
  | x :: st => by
    rw [List.length_cons, pre_hd]
    show f x + pre (st.map f) st.length = f x + sm f st
    rw [pre_sm f st]
theorem facS_sm : ∀ st : List Fl, facS st = sm Fl.free st
  | [] => rfl
  | x :: st => by unfold facS; rw [facS_sm st]; rfl
/-- What is fixed stays as it is. -/
def Stay (x y : Fl) : Prop := x.fi = true → y = x
theorem all2_refl {R : Fl → Fl → Prop} (h : ∀ x, R x x) : ∀ l : List Fl, All2 R l l
  | [] => .nil
  | x :: l => .cons (h x) (all2_refl h l)
theorem stay_trans : ∀ {l m k : List Fl}, All2 Stay l m → All2 Stay m k → All2 Stay l k
  | _, _, _, .nil, .nil => .nil
  | _, _, _, .cons a s, .cons b t => .cons (fun h => by have e := a h; subst e; exact b h) (stay_trans s t)
theorem tg_stp_stay (s : Int) : ∀ {l m : List Fl}, All2 Tg l m → All2 Stay l (m.map (stpF s))
  | _, _, .nil => .nil
  | _, _, .cons (x := x) (y := y) h t => by
    refine .cons (fun hf => ?_) (tg_stp_stay s t)
    obtain ⟨h1, h2, h3, h4, _⟩ := h
    have hy : y.fi = true := by rw [h3]; exact hf
    rw [stp_fixed hy]
    have e := h4 hf
    cases x; cases y
    simp only at h1 h2 h3 e
    subst h1 h2 h3 e
    rfl
theorem step_stay {g : Bool} {room first : Int} {st m : List Fl} (h : stepO g room first st = some m) : All2 Stay st m := by
  unfold stepO at h
  cases h1 : targetsO g room first st with
  | none => rw [h1] at h; cases h
  | some q =>
    obtain ⟨t, k⟩ := q
    rw [h1] at h
    cases h
    exact tg_stp_stay t (targetsO_spec h1).1
theorem loop_stay {g : Bool} {room first : Int} (k : Nat) : ∀ {st m : List Fl}, loopF g room first k st = some m → All2 Stay st m := by
  induction k with
  | zero => intro st m h; cases h; exact all2_refl (fun _ _ => rfl) _
  | succ k ih =>
    intro st m h
    rw [loopF] at h
    split at h
    · cases h; exact all2_refl (fun _ _ => rfl) _
    · cases h1 : stepO g room first st with
      | none => rw [h1] at h; cases h
      | some m1 =>
        rw [h1, Option.bind_some] at h
        exact stay_trans (step_stay h1) (ih h)
theorem stay_mem : ∀ {l m : List Fl}, All2 Stay l m → ∀ x ∈ l, x.fi = true → x ∈ m
  | _, _, .nil => fun x hx => by simp at hx
  | _, _, .cons h t => fun x hx hf => by
    rcases List.mem_cons.1 hx with rfl | hx
    · rw [h hf]; exact List.mem_cons_self
    · exact List.mem_cons_of_mem _ (stay_mem t x hx hf)
/-- No limit is met. -/
def FreeB (y : Fl) : Prop := y.it.lim y.it.base = y.it.base ∧ y.it.least < y.tg ∧ (y.it.bound = true → y.tg < y.it.most)
theorem free_up {x : Fx} {t : Int} (h : t < x.lim t) : ¬ x.least < x.lim t := by
  cases hq : x.bound
  all_goals
    simp only [Fx.lim, limN, hq, if_true, Bool.false_eq_true, if_false] at *
    omega
theorem free_dn {x : Fx} {t : Int} (h : x.lim t < t) : ¬ (x.least < x.lim t ∧ (x.bound = true → x.lim t < x.most)) := by
  cases hq : x.bound
  all_goals
    simp only [Fx.lim, limN, hq, if_true, Bool.false_eq_true, if_false, true_implies, false_implies] at *
    omega
theorem newF_of_free {g : Bool} {x : Fx} (h : x.lim x.base = x.base) : (newF g x).fi = (facX g x == 0) := by
  unfold newF facX
  rw [h]
  cases g <;> simp
def enough (g : Bool) (x : Fx) : Int := if g then x.grow else min x.shrink (x.shrink * x.base)
theorem sm_zero : ∀ l : List Fl, sm (fun _ : Fl => (0 : Int)) l = 0
  | [] => rfl
  | x :: l => by rw [sm_cons, sm_zero l]; rfl
theorem exact_fill {g : Bool} {R : Int} {l : List Fx} {m : List Fl} (hc : ∀ x ∈ l, Cut x) (hl : loopF g R (R - sm Fl.now (l.map (newF g))) l.length (l.map (newF g)) = some m) (hit : m.map Fl.it = l) (hF : ∀ y ∈ m, FreeB y) (h4 : 4096 ≤ sm (enough g) l) : sm Fl.tg m = R := by
  have hfr : ∀ x ∈ l, x.lim x.base = x.base := fun x hx => by
    rw [← hit] at hx
    obtain ⟨y, hy, rfl⟩ := List.mem_map.1 hx
    exact (hF y hy).1
  have hfi : ∀ x ∈ l, (newF g x).fi = (facX g x == 0) := fun x hx => newF_of_free (hfr x hx)
  obtain ⟨st, est⟩ : ∃ st, l.map (newF g) = st := ⟨_, rfl⟩
  have hst : ∀ y ∈ st, y.fi = (y.fa == 0) ∧ 0 ≤ y.fa ∧ 0 ≤ y.it.base := fun y hy => by
    rw [← est] at hy
    obtain ⟨x, hx, rfl⟩ := List.mem_map.1 hy
    have hcx := hc x hx
    refine ⟨hfi x hx, ?_, hcx.1.1⟩
    show 0 ≤ (if g then x.grow else x.shrink)
    unfold Cut at hcx
    split <;> omega
  have hE : sm (enough g) l ≤ sm Fl.free st ∧ sm (enough g) l ≤ sm (wgtV g) st := by
    rw [← est, sm_map, sm_map]
    have key : ∀ x ∈ l, enough g x ≤ (newF g x).free ∧ enough g x ≤ wgtV g (newF g x) := fun x hx => by
      have e := hfi x hx
      have hcx := hc x hx
      unfold Fl.free wgtV enough
      rw [e]
      have hfa : (newF g x).fa = facX g x := rfl
      have hb : (newF g x).it.base = x.base := rfl
      rw [hfa, hb]
      by_cases h0 : facX g x = 0
      · rw [h0]
        simp only [beq_self_eq_true, if_true]
        unfold facX at h0
        cases g
        · simp only [Bool.false_eq_true, if_false] at h0 ⊢
          rw [h0]
          simp
        · simp only [if_true] at h0 ⊢
          omega
      · have e0 : (facX g x == 0) = false := by simp; exact h0
        rw [e0]
        simp only [Bool.false_eq_true, if_false]
        unfold facX
        cases g
        · simp only [Bool.false_eq_true, if_false]
          omega
        · simp only [if_true]
          omega
    exact ⟨sm_le fun x hx => (key x hx).1, sm_le fun x hx => (key x hx).2⟩
  rw [est] at hl
  have hlen : l.length = st.length := by rw [← est, List.length_map]
  rw [hlen] at hl
  have hnd : doneF st = false := by
    cases e : doneF st
    · rfl
    · have : sm Fl.free st = 0 := by
        have h1 : sm Fl.free st ≤ sm (fun _ => 0) st := sm_le fun y hy => by
          have := List.all_eq_true.1 e y hy
          unfold Fl.free
          rw [this]
          simp
        have h2 := sm_zero st
        have h3 : sm (fun _ : Fl => (0 : Int)) st ≤ sm Fl.free st := sm_le fun y hy => by
          have := hst y hy
          unfold Fl.free
          split <;> omega
        omega
      omega
  obtain ⟨n, en⟩ : ∃ n, st.length = n + 1 := by
    cases hs : st with
    | nil => rw [hs] at hnd; cases hnd
    | cons x q => exact ⟨q.length, rfl⟩
  rw [en, loopF, hnd, if_neg (by simp)] at hl
  cases h1 : stepO g R (R - sm Fl.now st) st with
  | none => rw [h1] at hl; cases hl
  | some m1 =>
    rw [h1, Option.bind_some] at hl
    have hstay := loop_stay n hl
    have hstep := h1
    unfold stepO at hstep
    cases h2 : targetsO g R (R - sm Fl.now st) st with
    | none => rw [h2] at hstep; cases hstep
    | some q =>
      obtain ⟨t, k⟩ := q
      rw [h2] at hstep
      have em1 : k.map (stpF t) = m1 := by cases hstep; rfl
      obtain ⟨A, et⟩ := targetsO_spec h2
      have hbad : ∀ y ∈ k, y.fi = false → fixB t (y.it.lim y.tg) y.tg = true → y.it.least < y.it.lim y.tg ∧ (y.it.bound = true → y.it.lim y.tg < y.it.most) := fun y hy hf hb => by
        have e := stp_now hf hb
        have hm : ({ y with tg := y.it.lim y.tg, fi := true } : Fl) ∈ m1 := by
          rw [← em1, ← e]; exact List.mem_map_of_mem hy
        exact (hF _ (stay_mem hstay _ hm rfl)).2
      have ht0 : t = 0 := by
        rcases Int.lt_trichotomy t 0 with h0 | h0 | h0
        · obtain ⟨y, hy, h2, h3⟩ := dS_neg k (by omega)
          have hb : fixB t (y.it.lim y.tg) y.tg = true := by
            unfold fixB
            rw [decide_eq_true h0, decide_eq_true h3]
            simp
          exact absurd (hbad y hy h2 hb) (free_dn h3)
        · exact h0
        · obtain ⟨y, hy, h2, h3⟩ := dS_pos k (by omega)
          have hb : fixB t (y.it.lim y.tg) y.tg = true := by
            unfold fixB
            rw [decide_eq_true h0, decide_eq_true h3]
            simp
          exact absurd (hbad y hy h2 hb).1 (free_up h3)
      have hfix : ∀ y ∈ k, (stpF t y).fi = true ∧ (stpF t y).tg = limU y := fun y hy => by
        cases hf : y.fi
        · have hb : fixB t (y.it.lim y.tg) y.tg = true := by unfold fixB; rw [ht0]; simp
          rw [stp_now hf hb]
          refine ⟨rfl, ?_⟩
          unfold limU
          rw [hf]
          rfl
        · rw [stp_fixed hf]
          refine ⟨hf, ?_⟩
          unfold limU
          rw [hf]
          rfl
      have hd1 : doneF m1 = true := by
        rw [← em1]
        unfold doneF
        rw [List.all_eq_true]
        intro z hz
        obtain ⟨y, hy, rfl⟩ := List.mem_map.1 hz
        exact (hfix y hy).1
      have hm : m = m1 := by
        cases n with
        | zero => cases hl; rfl
        | succ n => rw [loopF, hd1, if_pos rfl] at hl; cases hl; rfl
      obtain ⟨tt, ws, ps, e1, e2, e3, e4, e5, e6⟩ := targetsO_parts h2
      have hws := wgtsO_val e2
      have hpre : pre ws st.length = sm (wgtV g) st := by rw [hws]; exact pre_sm _ st
      have hF0 : 4096 ≤ facS st := by rw [facS_sm]; omega
      have htt : tt = R - sm Fl.now st := by
        unfold partO at e3
        rw [if_neg (by omega)] at e3
        cases e3
        rfl
      have hU : sumU st ps = pre ps st.length := sumU_all st ps fun i hi hf => by
        rw [e5, partsN_get _ _ _ _ _ hi]
        refine share_none _ _ _ _ ?_
        rw [hws]
        have hg : (st.map (wgtV g)).getD i 0 = wgtV g (st.getD i fl0) := by simp [List.getD, hi]
        rw [hg]
        unfold wgtV
        rw [hf]
        rfl
      have hP : pre ps st.length = tt := by
        rw [e5, parts_sum]
        exact Int.mul_ediv_cancel _ (by omega)
      have hS := tgsF_sum e6
      have hK := lim_split k
      rw [← fix_same A, hS, ← et] at hK
      have hN := now_split st
      rw [hm, ← em1, sm_map]
      have : sm (fun y => (stpF t y).tg) k = sm limU k := by
        refine Int.le_antisymm (sm_le fun y hy => ?_) (sm_le fun y hy => ?_)
        · rw [(hfix y hy).2]; exact Int.le_refl _
        · rw [(hfix y hy).2]; exact Int.le_refl _
      rw [this]
      omega
end Go.Proofs.Ythofammjbicogaa
