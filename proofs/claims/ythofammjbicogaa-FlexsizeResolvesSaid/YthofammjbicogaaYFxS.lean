/-
  Flex sizes: growing and shrinking, step by step, in plain numbers.
-/
import Derived.Test.YthofammjbicogaaYFxR
namespace Go.Proofs.Ythofammjbicogaa
open Go.RowKit
set_option linter.unusedSimpArgs false
set_option linter.unusedVariables false

theorem facS_nn {st : List Fl} (h : ∀ x ∈ st, FlMay x) : 0 ≤ facS st ∧ facS st ≤ 4096000 * (st.length : Int) := by
  have := facS_bnd h st.length (Nat.le_refl _)
  rw [List.take_of_length_le (Nat.le_refl _)] at this
  exact this
theorem partO_grow {first F out t : Int} (hf : 0 ≤ first) (hF : 0 ≤ F) (ho : 0 ≤ out) (h : partO first F out = some t) : 0 ≤ t ∧ t ≤ out := by
  unfold partO at h
  split at h
  · split at h
    · cases h
      have e : fq (first * F) 4096 = first * F / 4096 := by unfold fq; rw [if_neg (by omega)]
      have h1 : 0 ≤ first * F / 4096 := Int.ediv_nonneg (Int.mul_nonneg hf hF) (by omega)
      rw [e]
      obtain ⟨p, ep⟩ : ∃ p, first * F / 4096 = p := ⟨_, rfl⟩
      rw [ep] at h1 ⊢
      unfold absI
      split <;> omega
    · cases h
  · cases h; omega
theorem partO_shrink {first F out t : Int} (hf : first ≤ 0) (hF : 0 ≤ F) (ho : out ≤ 0) (h : partO first F out = some t) : out ≤ t ∧ t ≤ 0 := by
  unfold partO at h
  split at h
  · split at h
    · cases h
      have e : fq (first * F) 4096 = first * F / 4096 := by unfold fq; rw [if_neg (by omega)]
      have h1 : first * F / 4096 ≤ 0 := by
        have := Int.mul_nonpos_of_nonpos_of_nonneg hf hF
        omega
      rw [e]
      obtain ⟨p, ep⟩ : ∃ p, first * F / 4096 = p := ⟨_, rfl⟩
      rw [ep] at h1 ⊢
      unfold absI
      split <;> omega
    · cases h
  · cases h; omega
theorem parts_up {t : Int} {ws : List Int} {n : Nat} (ht : 0 ≤ t) (hn : Nonneg ws) : (∀ p ∈ partsN t (pre ws n) ws n, 0 ≤ p) ∧ pre (partsN t (pre ws n) ws n) n ≤ t := by
  refine ⟨fun p hp => ?_, by rw [parts_sum]; exact ((bound_abs (pre_nonneg hn n) (Int.le_refl _)).1 ht).2⟩
  unfold partsN at hp
  obtain ⟨i, hi, rfl⟩ := List.mem_map.1 hp
  unfold shareAt
  have hm := pre_mono hn (show i ≤ i + 1 by omega)
  by_cases hS : pre ws n = 0
  · rw [hS]; simp
  · have h1 : 0 < pre ws n := by have := pre_nonneg hn n; omega
    have := Int.ediv_le_ediv h1 (Int.mul_le_mul_of_nonneg_left hm ht)
    omega
theorem parts_dn {t : Int} {ws : List Int} {n : Nat} (ht : t ≤ 0) (hn : Nonneg ws) : (∀ p ∈ partsN t (pre ws n) ws n, p ≤ 0) ∧ t ≤ pre (partsN t (pre ws n) ws n) n := by
  refine ⟨fun p hp => ?_, by rw [parts_sum]; exact ((bound_abs (pre_nonneg hn n) (Int.le_refl _)).2 ht).1⟩
  unfold partsN at hp
  obtain ⟨i, hi, rfl⟩ := List.mem_map.1 hp
  unfold shareAt
  have hm := pre_mono hn (show i ≤ i + 1 by omega)
  by_cases hS : pre ws n = 0
  · rw [hS]; simp
  · have h1 : 0 < pre ws n := by have := pre_nonneg hn n; omega
    have := Int.ediv_le_ediv h1 (show t * pre ws (i + 1) ≤ t * pre ws i from by have := Int.mul_le_mul_of_nonneg_left hm (show 0 ≤ -t by omega); rw [Int.neg_mul, Int.neg_mul] at this; omega)
    omega
/-- What a step's targets come of. -/
theorem targetsO_parts {grows : Bool} {room first t : Int} {st k : List Fl} (h : targetsO grows room first st = some (t, k)) : ∃ tt ws ps, freeF room st = some (room - sm Fl.now st) ∧ wgtsO grows st = some ws ∧ partO first (facS st) (room - sm Fl.now st) = some tt ∧ pre ws st.length ≤ 4611686018427387904 ∧ ps = partsN tt (pre ws st.length) ws st.length ∧ tgsF st ps 0 = some (t, k) := by
  unfold targetsO sharedO at h
  cases h1 : freeF room st with
  | none => rw [h1] at h; cases h
  | some out =>
    have e := freeF_val h1
    subst e
    rw [h1, Option.bind_some] at h
    cases h2 : wgtsO grows st with
    | none => rw [h2] at h; cases h
    | some ws =>
      rw [h2, Option.bind_some] at h
      cases h3 : partO first (facS st) (room - sm Fl.now st) with
      | none => rw [h3] at h; cases h
      | some tt =>
        rw [h3, Option.map_some, Option.bind_some] at h
        cases h4 : splO tt ws st.length with
        | none => rw [h4] at h; cases h
        | some ps =>
          rw [h4, Option.bind_some] at h
          unfold splO at h4
          split at h4
          · rename_i hh
            simp only [Bool.and_eq_true, decide_eq_true_eq] at hh
            cases h4
            exact ⟨tt, ws, _, rfl, rfl, by first | rfl | exact h3, hh.2, rfl, h⟩
          · cases h4
def fixV (x : Fl) : Int := if x.fi then x.tg else 0
def limU (x : Fl) : Int := if x.fi then x.tg else x.it.lim x.tg
theorem dS_sm : ∀ k : List Fl, dS k = sm (fun x => if x.fi then 0 else x.it.lim x.tg - x.tg) k
  | [] => rfl
  | x :: k => by unfold dS sm; rw [dS_sm k]
theorem now_split (l : List Fl) : sm Fl.now l = sm fixV l + sm baU l := by
  rw [← sm_add]
  congr 1
  funext x
  unfold Fl.now fixV baU
  split <;> omega
theorem lim_split (l : List Fl) : sm limU l = (sm fixV l + sm tgU l) + dS l := by
  rw [dS_sm, ← sm_add, ← sm_add]
  congr 1
  funext x
  unfold limU fixV tgU
  cases hx : x.fi
  · simp only [Bool.false_eq_true, if_false]
    show x.it.lim x.tg = (0 + x.tg) + (x.it.lim x.tg - x.tg)
    omega
  · simp only [if_true]
    show x.tg = (x.tg + 0) + 0
    omega
theorem fix_same {l m : List Fl} (h : All2 Tg l m) : sm fixV l = sm fixV m := all2_sm (R := Tg) (fun x y r => by
  obtain ⟨_, _, h3, h4, _⟩ := r
  unfold fixV
  rw [h3]
  split
  · rename_i hx; rw [h4 hx]
  · rfl) h
theorem fir_same {l m : List Fl} (h : All2 Tg l m) : sm firV l = sm firV m := all2_sm (R := Tg) (fun x y r => by
  obtain ⟨h1, _, h3, h4, _⟩ := r
  unfold firV
  rw [h3, h1]
  split
  · rename_i hx; rw [h4 hx]
  · rfl) h
theorem now_fir_grow {room : Int} {st : List Fl} (h : GI room st) : sm Fl.now st ≤ sm firV st := sm_le fun x hx => by
  obtain ⟨_, h2, _⟩ := h.1 x hx
  unfold Fl.now firV
  cases e : x.fi
  · simp only [Bool.false_eq_true, if_false]; exact h2 e
  · simp
theorem now_fir_shrink {room : Int} {st : List Fl} (h : SI room st) : sm firV st ≤ sm Fl.now st := sm_le fun x hx => by
  obtain ⟨_, h2, _⟩ := h.1 x hx
  unfold Fl.now firV
  cases e : x.fi
  · simp only [Bool.false_eq_true, if_false]; exact h2 e
  · simp
theorem fixB_pos {s lt tg : Int} (hs : 0 < s) (h : fixB s lt tg = true) : tg < lt := by
  unfold fixB at h
  simp only [Bool.or_eq_true, Bool.and_eq_true, decide_eq_true_eq, beq_iff_eq] at h
  omega
theorem fixB_neg {s lt tg : Int} (hs : s < 0) (h : fixB s lt tg = true) : lt < tg := by
  unfold fixB at h
  simp only [Bool.or_eq_true, Bool.and_eq_true, decide_eq_true_eq, beq_iff_eq] at h
  omega
theorem may_all {st : List Fl} (h : ∀ x ∈ st, FlWf x) : ∀ x ∈ st, FlMay x := fun x hx => (h x hx).1
/-- A step of growing. -/
theorem step_grow {room first : Int} {st m : List Fl} (h : stepO true room first st = some m) (hI : GI room st) (h0 : 0 ≤ first) : GI room m := by
  have hwf : ∀ x ∈ st, FlWf x := fun x hx => (hI.1 x hx).1
  unfold stepO at h
  cases h1 : targetsO true room first st with
  | none => rw [h1] at h; cases h
  | some q =>
    obtain ⟨t, k⟩ := q
    rw [h1] at h
    cases h
    obtain ⟨A, et⟩ := targetsO_spec h1
    obtain ⟨tt, ws, ps, e1, e2, e3, e4, e5, e6⟩ := targetsO_parts h1
    obtain ⟨hwl, hwb⟩ := wgtsO_bnd hwf e2
    have hnn := (nonneg_mem hwb).1
    have hnow := now_fir_grow hI
    have hroom := hI.2
    obtain ⟨g1, g2⟩ := partO_grow h0 (facS_nn (may_all hwf)).1 (by omega) e3
    obtain ⟨p1, p2⟩ := parts_up (n := st.length) g1 hnn
    rw [← e5] at p1 p2
    have hS := tgsF_sum e6
    have hU := sumU_up st ps p1
    have hat := tgsF_at (P := fun p => 0 ≤ p) (by omega) p1 e6
    have hK := lim_split k
    rw [← fix_same A, hS, ← et] at hK
    have hN := now_split st
    have hkw := all2_wf A hwf
    have hsum : sm firV (k.map (stpF t)) ≤ room := by
      rw [sm_map]
      by_cases ht : 0 < t
      · have e : sm (fun x => firV (stpF t x)) k ≤ sm firV k := sm_le fun y hy => by
          cases hf : y.fi
          · cases hb : fixB t (y.it.lim y.tg) y.tg
            · rw [stp_not hf hb]; exact Int.le_refl _
            · rw [stp_now hf hb]
              have h2 := hat y hy hf
              have h3 := lim_up (x := y.it) (a := y.it.base) (b := y.tg) (by omega) (fixB_pos ht hb)
              unfold firV
              rw [hf]
              simp only [if_true, Bool.false_eq_true, if_false]
              omega
          · rw [stp_fixed hf]; exact Int.le_refl _
        rw [← fir_same A] at e
        omega
      · have e : sm (fun x => firV (stpF t x)) k ≤ sm limU k := sm_le fun y hy => by
          cases hf : y.fi
          · have h2 := hat y hy hf
            have h3 := lim_mono (x := y.it) (a := y.it.base) (b := y.tg) (by omega)
            cases hb : fixB t (y.it.lim y.tg) y.tg
            · rw [stp_not hf hb]
              unfold firV limU
              rw [hf]
              simp only [Bool.false_eq_true, if_false]
              exact h3
            · rw [stp_now hf hb]
              unfold firV limU
              rw [hf]
              simp
          · rw [stp_fixed hf]
            unfold firV limU
            rw [hf]
            simp
        omega
    refine ⟨fun z hz => ?_, hsum⟩
    obtain ⟨y, hy, rfl⟩ := List.mem_map.1 hz
    obtain ⟨x, hx, hR⟩ := all2_mem A y hy
    obtain ⟨_, i2, i3⟩ := hI.1 x hx
    obtain ⟨r1, r2, r3, r4, _⟩ := hR
    refine ⟨stpF_wf t (hkw y hy), fun hf => ?_, fun hf => ?_⟩
    · cases hyf : y.fi
      · cases hb : fixB t (y.it.lim y.tg) y.tg
        · rw [stp_not hyf hb, r1]; exact i2 (by rw [← r3]; exact hyf)
        · rw [stp_now hyf hb] at hf; cases hf
      · rw [stp_fixed hyf, hyf] at hf; cases hf
    · cases hyf : y.fi
      · cases hb : fixB t (y.it.lim y.tg) y.tg
        · rw [stp_not hyf hb, hyf] at hf; cases hf
        · rw [stp_now hyf hb]
          have h2 := hat y hy hyf
          exact lim_mono (show y.it.base ≤ y.tg by omega)
      · rw [stp_fixed hyf, r1, r4 (by rw [← r3]; exact hyf)]; exact i3 (by rw [← r3]; exact hyf)
/-- A step of shrinking. -/
theorem step_shrink {room first : Int} {st m : List Fl} (h : stepO false room first st = some m) (hI : SI room st) (h0 : first ≤ 0) : SI room m := by
  have hwf : ∀ x ∈ st, FlWf x := fun x hx => (hI.1 x hx).1
  unfold stepO at h
  cases h1 : targetsO false room first st with
  | none => rw [h1] at h; cases h
  | some q =>
    obtain ⟨t, k⟩ := q
    rw [h1] at h
    cases h
    obtain ⟨A, et⟩ := targetsO_spec h1
    obtain ⟨tt, ws, ps, e1, e2, e3, e4, e5, e6⟩ := targetsO_parts h1
    obtain ⟨hwl, hwb⟩ := wgtsO_bnd hwf e2
    have hnn := (nonneg_mem hwb).1
    have hnow := now_fir_shrink hI
    have hroom := hI.2
    obtain ⟨g1, g2⟩ := partO_shrink h0 (facS_nn (may_all hwf)).1 (by omega) e3
    obtain ⟨p1, p2⟩ := parts_dn (n := st.length) g2 hnn
    rw [← e5] at p1 p2
    have hS := tgsF_sum e6
    have hU := sumU_dn st ps p1
    have hat := tgsF_at (P := fun p => p ≤ 0) (by omega) p1 e6
    have hK := lim_split k
    rw [← fix_same A, hS, ← et] at hK
    have hN := now_split st
    have hkw := all2_wf A hwf
    have hsum : room ≤ sm firV (k.map (stpF t)) := by
      rw [sm_map]
      by_cases ht : t < 0
      · have e : sm firV k ≤ sm (fun x => firV (stpF t x)) k := sm_le fun y hy => by
          cases hf : y.fi
          · cases hb : fixB t (y.it.lim y.tg) y.tg
            · rw [stp_not hf hb]; exact Int.le_refl _
            · rw [stp_now hf hb]
              have h2 := hat y hy hf
              have h3 := lim_dn (x := y.it) (a := y.it.base) (b := y.tg) (by omega) (fixB_neg ht hb)
              unfold firV
              rw [hf]
              simp only [if_true, Bool.false_eq_true, if_false]
              omega
          · rw [stp_fixed hf]; exact Int.le_refl _
        rw [← fir_same A] at e
        omega
      · have e : sm limU k ≤ sm (fun x => firV (stpF t x)) k := sm_le fun y hy => by
          cases hf : y.fi
          · have h2 := hat y hy hf
            have h3 := lim_mono (x := y.it) (a := y.tg) (b := y.it.base) (by omega)
            cases hb : fixB t (y.it.lim y.tg) y.tg
            · rw [stp_not hf hb]
              unfold firV limU
              rw [hf]
              simp only [Bool.false_eq_true, if_false]
              exact h3
            · rw [stp_now hf hb]
              unfold firV limU
              rw [hf]
              simp
          · rw [stp_fixed hf]
            unfold firV limU
            rw [hf]
            simp
        omega
    refine ⟨fun z hz => ?_, hsum⟩
    obtain ⟨y, hy, rfl⟩ := List.mem_map.1 hz
    obtain ⟨x, hx, hR⟩ := all2_mem A y hy
    obtain ⟨_, i2, i3⟩ := hI.1 x hx
    obtain ⟨r1, r2, r3, r4, _⟩ := hR
    refine ⟨stpF_wf t (hkw y hy), fun hf => ?_, fun hf => ?_⟩
    · cases hyf : y.fi
      · cases hb : fixB t (y.it.lim y.tg) y.tg
        · rw [stp_not hyf hb, r1]; exact i2 (by rw [← r3]; exact hyf)
        · rw [stp_now hyf hb] at hf; cases hf
      · rw [stp_fixed hyf, hyf] at hf; cases hf
    · cases hyf : y.fi
      · cases hb : fixB t (y.it.lim y.tg) y.tg
        · rw [stp_not hyf hb, hyf] at hf; cases hf
        · rw [stp_now hyf hb]
          have h2 := hat y hy hyf
          exact lim_mono (show y.tg ≤ y.it.base by omega)
      · rw [stp_fixed hyf, r1, r4 (by rw [← r3]; exact hyf)]; exact i3 (by rw [← r3]; exact hyf)
end Go.Proofs.Ythofammjbicogaa
