/-
  Flex sizes: of items that are cut nothing is given up, in plain numbers.
-/
import Derived.Test.YthofammjbicogaaYFxS
namespace Go.Proofs.Ythofammjbicogaa
open Go.RowKit
set_option linter.unusedSimpArgs false
set_option linter.unusedVariables false

/-- An item that is cut to numbers that have room. -/
def Cut (x : Fx) : Prop := (0 ≤ x.base ∧ x.base ≤ 1073741823) ∧ (0 ≤ x.least ∧ x.least ≤ 1073741823) ∧ (0 ≤ x.most ∧ x.most ≤ 1073741823) ∧ (-1073741823 ≤ x.extra ∧ x.extra ≤ 1073741823) ∧ (0 ≤ x.grow ∧ x.grow ≤ 4096000) ∧ (0 ≤ x.shrink ∧ x.shrink ≤ 4096000)
theorem Cut.fit {x : Fx} (h : Cut x) : FxFit x := by
  unfold Cut at h; unfold FxFit IFit; omega
theorem Cut.may {x : Fx} (h : Cut x) : x.may = true := by
  unfold Cut at h
  unfold Fx.may
  simp only [Bool.and_eq_true, decide_eq_true_eq]
  omega
theorem Cut.lim {x : Fx} (h : Cut x) : 0 ≤ x.lim x.base ∧ x.lim x.base ≤ 1073741823 := by
  unfold Cut at h
  unfold Fx.lim limN
  split <;> omega
theorem cut_lim {x : Fx} (h : Cut x) (t : Int) : 0 ≤ x.lim t ∧ (x.lim t ≤ 1073741823 ∨ x.lim t ≤ t) ∧ (x.lim t = t ∨ (t < x.lim t ∧ x.lim t ≤ 1073741823) ∨ (x.lim t < t)) := by
  unfold Cut at h
  unfold Fx.lim limN
  split <;> omega
theorem lenB_of {n : Int} (h1 : -17592186044416 ≤ n) (h2 : n ≤ 17592186044416) : lenB n = true := (lenB_iff n).2 ⟨h1, h2⟩
theorem addO_of {a b : Int} (ha : lenB a = true) (hb : lenB (a + b) = true) : addO a b = some (a + b) := by unfold addO; rw [ha, hb]; rfl
theorem subO_of {a b : Int} (hb : lenB (a - b) = true) : subO a b = some (a - b) := by unfold subO; rw [hb]; rfl
theorem sm_cons {α : Type} (f : α → Int) (x : α) (l : List α) : sm f (x :: l) = f x + sm f l := rfl
theorem roomF_ok (l : List Fx) : ∀ (r s : Int), (∀ x ∈ l, Cut x) → -4398046511104 + 1073741823 * (l.length : Int) ≤ r → r ≤ 4398046511104 - 1073741823 * (l.length : Int) → 0 ≤ s → s ≤ 4398046511104 - 1073741823 * (l.length : Int) → roomF r s l = some (r - sm Fx.extra l, s + sm (fun x => x.lim x.base) l)
  := by
  induction l with
  | nil => intro r s _ _ _ _ _; simp [roomF, sm]
  | cons x l ih =>
    intro r s hc h1 h2 h3 h4
    have hx := hc x List.mem_cons_self
    have hl := hx.lim
    have he := hx.2.2.2.1
    rw [List.length_cons] at h1 h2 h4
    push_cast at h1 h2 h4
    have hn : (0 : Int) ≤ (l.length : Int) := by omega
    rw [roomF, subO_of (lenB_of (by omega) (by omega)), Option.bind_some, addO_of (lenB_of (by omega) (by omega)) (lenB_of (by omega) (by omega)), Option.bind_some, ih _ _ (fun y hy => hc y (List.mem_cons_of_mem _ hy)) (by omega) (by omega) (by omega) (by omega)]
    congr 1
    rw [sm_cons, sm_cons, Prod.mk.injEq]
    constructor <;> omega
theorem freeF_ok (st : List Fl) : ∀ (o : Int), (∀ x ∈ st, 0 ≤ x.now ∧ x.now ≤ 549755813888) → -17592186044416 + 549755813888 * (st.length : Int) ≤ o → o ≤ 17592186044416 → freeF o st = some (o - sm Fl.now st)
  := by
  induction st with
  | nil => intro o _ _ _; simp [freeF, sm]
  | cons x st ih =>
    intro o hc h1 h2
    have hx := hc x List.mem_cons_self
    rw [List.length_cons] at h1
    push_cast at h1
    have hn : (0 : Int) ≤ (st.length : Int) := by omega
    rw [freeF, if_pos (lenB_of (by omega) (by omega)), ih _ (fun y hy => hc y (List.mem_cons_of_mem _ hy)) (by omega) (by omega)]
    congr 1
    rw [sm_cons]
    omega
def BI (st : List Fl) : Prop := ∀ x ∈ st, FlWf x ∧ Cut x.it ∧ (x.fi = true → 0 ≤ x.tg ∧ x.tg ≤ 549755813888)
theorem BI.now {st : List Fl} (h : BI st) : ∀ x ∈ st, 0 ≤ x.now ∧ x.now ≤ 549755813888 := fun x hx => by
  obtain ⟨_, h2, h3⟩ := h x hx
  have := h2.1
  unfold Fl.now
  cases e : x.fi
  · simp only [Bool.false_eq_true, if_false]; omega
  · simp only [if_true]; exact h3 e
theorem wgtO_ok {grows : Bool} {x : Fl} (hw : FlWf x) (hc : Cut x.it) : ∃ y, wgtO grows x = some y ∧ 0 ≤ y ∧ y ≤ 4398046511104000 := by
  unfold wgtO
  have h1 := hw.1.2
  have h2 := hc.1
  split
  · exact ⟨0, rfl, by omega, by omega⟩
  · split
    · exact ⟨_, rfl, by omega, by omega⟩
    · have h3 : 0 ≤ x.fa * x.it.base := Int.mul_nonneg h1.1 h2.1
      have h4 : x.fa * x.it.base ≤ 4096000 * 1073741823 := Int.mul_le_mul h1.2 h2.2 h2.1 (by omega)
      have h5 : inB (x.fa * x.it.base) = true := by
        unfold inB
        rw [decide_eq_true (by omega), decide_eq_true (by omega)]
        rfl
      rw [h5, if_pos rfl]
      exact ⟨_, rfl, h3, by omega⟩
theorem wgtsO_ok {grows : Bool} : ∀ {st : List Fl}, BI st → ∃ ws, wgtsO grows st = some ws ∧ pre ws st.length ≤ 4398046511104000 * (st.length : Int) ∧ ws.length = st.length
  | [], _ => ⟨[], rfl, by simp [pre], rfl⟩
  | x :: st, h => by
    obtain ⟨h1, h2, _⟩ := h x List.mem_cons_self
    obtain ⟨y, e1, b1, b2⟩ := wgtO_ok (grows := grows) h1 h2
    obtain ⟨ws, e2, b3, b4⟩ := wgtsO_ok (grows := grows) (st := st) (fun z hz => h z (List.mem_cons_of_mem _ hz))
    refine ⟨y :: ws, by rw [wgtsO, e1, Option.bind_some, e2]; rfl, ?_, by simp [b4]⟩
    rw [List.length_cons, pre_hd]
    show y + pre ws st.length ≤ _
    push_cast
    omega
theorem parts_abs {t M : Int} {ws : List Int} {n : Nat} (ht : -M ≤ t ∧ t ≤ M) (hn : Nonneg ws) : ∀ p ∈ partsN t (pre ws n) ws n, -M ≤ p ∧ p ≤ M := fun p hp => by
  unfold partsN at hp
  obtain ⟨i, hi, rfl⟩ := List.mem_map.1 hp
  rw [List.mem_range] at hi
  unfold shareAt
  have a1 := bound_abs (t := t) (pre_nonneg hn (i + 1)) (pre_mono hn (show i + 1 ≤ n by omega))
  have a2 := bound_abs (t := t) (pre_nonneg hn i) (pre_mono hn (show i ≤ n by omega))
  obtain ⟨x, ex⟩ : ∃ x, t * pre ws (i + 1) / pre ws n = x := ⟨_, rfl⟩
  obtain ⟨y, ey⟩ : ∃ x, t * pre ws i / pre ws n = x := ⟨_, rfl⟩
  rw [ex] at a1 ⊢
  rw [ey] at a2 ⊢
  rcases Int.le_total 0 t with h | h
  · have := a1.1 h; have := a2.1 h; omega
  · have := a1.2 h; have := a2.2 h; omega
theorem tgsF_ok (l : List Fl) : ∀ (ps : List Int) (s : Int), BI l → (∀ p ∈ ps, -274877906944 ≤ p ∧ p ≤ 274877906944) → -17592186044416 + 549755813888 * (l.length : Int) ≤ s → s ≤ 17592186044416 - 549755813888 * (l.length : Int) → ∃ t m, tgsF l ps s = some (t, m) ∧ ∀ y ∈ m, y.fi = false → -274877906944 ≤ y.tg - y.it.base ∧ y.tg - y.it.base ≤ 274877906944
  := by
  induction l with
  | nil => intro ps s _ _ _ _; exact ⟨s, [], rfl, fun y hy => by simp at hy⟩
  | cons x l ih =>
    intro ps s hb hp h1 h2
    obtain ⟨_, hc, _⟩ := hb x List.mem_cons_self
    obtain ⟨p1, p2⟩ := head_in (P := fun p => -274877906944 ≤ p ∧ p ≤ 274877906944) (by omega) hp
    rw [List.length_cons] at h1 h2
    push_cast at h1 h2
    have hn : (0 : Int) ≤ (l.length : Int) := by omega
    rw [tgsF]
    cases hx : x.fi
    · rw [if_neg (by simp)]
      have hbase := hc.1
      have hl := cut_lim hc (x.it.base + ps.headD 0)
      obtain ⟨p, ep⟩ : ∃ p, ps.headD 0 = p := ⟨_, rfl⟩
      rw [ep] at p1 hl ⊢
      obtain ⟨lt, elt⟩ : ∃ q, x.it.lim (x.it.base + p) = q := ⟨_, rfl⟩
      rw [elt] at hl
      have hlt : lt ≤ x.it.base + p ∨ lt ≤ 1073741823 := by rcases hl.2.1 with h | h <;> omega
      have hd : -549755813888 ≤ lt - (x.it.base + p) ∧ lt - (x.it.base + p) ≤ 549755813888 := by omega
      have e1 : tgO x p s = some (x.it.base + p, s + (lt - (x.it.base + p))) := tgO_yes (addO_of (lenB_of (by omega) (by omega)) (lenB_of (by omega) (by omega))) (by rw [elt]; exact subO_of (lenB_of (by omega) (by omega))) (addO_of (lenB_of (by omega) (by omega)) (lenB_of (by omega) (by omega)))
      rw [e1, Option.bind_some]
      obtain ⟨t, m, e2, hm⟩ := ih ps.tail (s + (lt - (x.it.base + p))) (fun z hz => hb z (List.mem_cons_of_mem _ hz)) p2 (by omega) (by omega)
      refine ⟨t, _ :: m, by rw [e2]; rfl, fun y hy hyf => ?_⟩
      rcases List.mem_cons.1 hy with rfl | hy
      · show -274877906944 ≤ x.it.base + p - x.it.base ∧ x.it.base + p - x.it.base ≤ 274877906944
        omega
      · exact hm y hy hyf
    · rw [if_pos rfl]
      obtain ⟨t, m, e2, hm⟩ := ih ps.tail s (fun z hz => hb z (List.mem_cons_of_mem _ hz)) p2 (by omega) (by omega)
      refine ⟨t, x :: m, by rw [e2]; rfl, fun y hy hyf => ?_⟩
      rcases List.mem_cons.1 hy with rfl | hy
      · rw [hx] at hyf; cases hyf
      · exact hm y hy hyf
theorem partO_ok {first F out : Int} (hf : -8796093022208 ≤ first ∧ first ≤ 8796093022208) (hF : 0 ≤ F) (ho : -274877906944 ≤ out ∧ out ≤ 274877906944) : ∃ t, partO first F out = some t ∧ -274877906944 ≤ t ∧ t ≤ 274877906944 := by
  unfold partO
  split
  · rename_i hF2
    have e : fq (first * F) 4096 = first * F / 4096 := by unfold fq; rw [if_neg (by omega)]
    have h1 : first * F / 4096 ≤ 8796093022208 ∧ -8796093022208 ≤ first * F / 4096 := by
      rcases Int.le_total 0 first with h | h
      · have h3 := Int.mul_nonneg h hF
        have h4 := Int.mul_le_mul (show first ≤ 8796093022208 by omega) (show F ≤ 4096 by omega) hF (by omega)
        omega
      · have h3 := Int.mul_nonpos_of_nonpos_of_nonneg h hF
        have h4 := Int.mul_le_mul (show -first ≤ 8796093022208 by omega) (show F ≤ 4096 by omega) hF (by omega)
        rw [Int.neg_mul] at h4
        omega
    rw [e]
    obtain ⟨p, ep⟩ : ∃ p, first * F / 4096 = p := ⟨_, rfl⟩
    rw [ep] at h1 ⊢
    rw [if_pos (lenB_of (by omega) (by omega))]
    refine ⟨_, rfl, ?_⟩
    unfold absI
    split <;> omega
  · exact ⟨_, rfl, ho⟩
/-- A step that nothing stops. -/
theorem step_ok {grows : Bool} {room first : Int} {st : List Fl} (hb : BI st) (hn : st.length ≤ 25) (hr : -274877906944 ≤ room ∧ room ≤ 274877906944) (hf : -8796093022208 ≤ first ∧ first ≤ 8796093022208) (ho : -274877906944 ≤ room - sm Fl.now st ∧ room - sm Fl.now st ≤ 274877906944) : ∃ m, stepO grows room first st = some m ∧ BI m := by
  have hwf : ∀ x ∈ st, FlWf x := fun x hx => (hb x hx).1
  have e1 := freeF_ok st room hb.now (by omega) (by omega)
  obtain ⟨ws, e2, b2, b3⟩ := wgtsO_ok (grows := grows) hb
  obtain ⟨tt, e3, b4⟩ := partO_ok hf (facS_nn (may_all hwf)).1 ho
  have hnn := (nonneg_mem (wgtsO_bnd hwf e2).2).1
  have e4 : splO tt ws st.length = some (partsN tt (pre ws st.length) ws st.length) := by
    unfold splO
    rw [lenB_of (by omega) (by omega), decide_eq_true (by omega)]
    rfl
  obtain ⟨t, k, e5, b5⟩ := tgsF_ok st _ 0 hb (parts_abs (n := st.length) b4 hnn) (by omega) (by omega)
  have e6 : targetsO grows room first st = some (t, k) := by
    unfold targetsO sharedO
    rw [e1, Option.bind_some, e2, Option.bind_some, e3, Option.map_some, Option.bind_some, e4, Option.bind_some, e5]
  have hkw := all2_wf (targetsO_spec e6).1 hwf
  refine ⟨k.map (stpF t), by unfold stepO; rw [e6]; rfl, fun z hz => ?_⟩
  obtain ⟨y, hy, rfl⟩ := List.mem_map.1 hz
  obtain ⟨x, hx, hR⟩ := all2_mem (targetsO_spec e6).1 y hy
  obtain ⟨r1, r2, r3, r4, _⟩ := hR
  obtain ⟨_, i2, i3⟩ := hb x hx
  have hcy : Cut y.it := by rw [r1]; exact i2
  cases hyf : y.fi
  · cases hbx : fixB t (y.it.lim y.tg) y.tg
    · rw [stp_not hyf hbx]; exact ⟨hkw y hy, hcy, fun e => by rw [hyf] at e; cases e⟩
    · have q := cut_lim hcy y.tg
      have q2 := b5 y hy hyf
      have q3 := hcy.1
      have hw := stpF_wf t (hkw y hy)
      rw [stp_now hyf hbx] at hw ⊢
      exact ⟨hw, hcy, fun _ => ⟨q.1, by rcases q.2.1 with h | h <;> (show y.it.lim y.tg ≤ _; omega)⟩⟩
  · rw [stp_fixed hyf]; exact ⟨hkw y hy, hcy, fun _ => by rw [r4 (by rw [← r3]; exact hyf)]; exact i3 (by rw [← r3]; exact hyf)⟩
end Go.Proofs.Ythofammjbicogaa
