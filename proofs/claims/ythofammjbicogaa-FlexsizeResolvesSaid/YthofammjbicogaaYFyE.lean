/-
  The reference of layer 19, plain: from a round to the next.
-/
import Derived.Test.YthofammjbicogaaYFyC
namespace Go.Proofs.Ythofammjbicogaa
open Go.RowKit
set_option linter.unusedSimpArgs false
set_option linter.unusedVariables false

theorem round_next {g : Bool} {room first : Int} {d : Nat} {st m : List Fl} (hr : -137438953472 ≤ room ∧ room ≤ 137438953472) (hf : -274877906944 ≤ first ∧ first ≤ 274877906944) (hs : (g = true → 0 ≤ first) ∧ (g = false → first ≤ 0)) (hlo : loopF g room first d st = some m) (hc : cntF st ≤ d) (hn : st.length ≤ 25) (hb : BI st) (hd : Dir g room st) (hla : ∀ x ∈ st, Last g x) (hdn : doneF st = false) :
    ∃ d' st', d = d' + 1 ∧ stepO g room first st = some st' ∧ loopF g room first d' st' = some m ∧ cntF st' ≤ d' ∧ st'.length = st.length ∧ st'.map Fl.it = st.map Fl.it ∧ BI st' ∧ Dir g room st' ∧ ∀ x ∈ st', Last g x := by
  have h0 := (done_cnt (m := st)).1 hdn
  have hnr := now_room hb hn hr hd
  obtain ⟨st', e1, hb2⟩ := step_ok (grows := g) (room := room) (first := first) hb hn (by omega) (by omega) ⟨hnr.1, hnr.2.1⟩
  have hlt := stepO_lt e1 hdn
  have hwf := stepO_wf e1 (fun x hx => (hb x hx).1)
  obtain ⟨hl2, hit⟩ := stepO_last e1 hla
  have hd2 : Dir g room st' := by
    cases g
    · exact step_shrink e1 hd (hs.2 rfl)
    · exact step_grow e1 hd (hs.1 rfl)
  obtain ⟨d', rfl⟩ : ∃ d', d = d' + 1 := ⟨d - 1, by omega⟩
  rw [loopF, hdn, if_neg (by simp), e1, Option.bind_some] at hlo
  exact ⟨d', st', rfl, e1, hlo, by omega, hwf.2, hit, hb2, hd2, hl2⟩
theorem round_done {g : Bool} {room first : Int} {d : Nat} {st m : List Fl} (hlo : loopF g room first d st = some m) (hdn : doneF st = true) : st = m := by
  cases d with
  | zero => rw [loopF] at hlo; exact Option.some.inj hlo
  | succ d => rw [loopF, if_pos hdn] at hlo; exact Option.some.inj hlo
theorem cnt_app : ∀ (l : List Fl) (x : Fl), cntF (l ++ [x]) = cntF l + (if x.fi then 0 else 1)
  | [], x => by simp [cntF]
  | y :: l, x => by rw [List.cons_append, cntF, cnt_app l x, cntF]; omega
theorem cnt_take {st : List Fl} {j : Nat} (hj : j < st.length) : cntF (st.take (j + 1)) = cntF (st.take j) + (if (st.getD j fl0).fi then 0 else 1) := by
  rw [List.take_succ_eq_append_getElem hj, cnt_app]
  simp [List.getD, hj]
theorem cnt_take_le {st : List Fl} {j : Nat} : cntF (st.take j) ≤ j := by
  have h := cnt_len (st.take j)
  rw [List.length_take] at h
  omega
theorem wR_take {g : Bool} {st : List Fl} {j : Nat} (hj : j < st.length) : (st.take (j + 1)).map (wR g) = (st.take j).map (wR g) ++ [wR g (st.getD j fl0)] := by
  rw [List.take_succ_eq_append_getElem hj, List.map_append]
  simp [List.getD, hj]
theorem spl_zero {T : Int} {ws : List Int} {n : Nat} (hn : n ≤ 1024) (hp : Nonneg ws) (hT : -274877906944 ≤ T ∧ T ≤ 274877906944) (hpre : pre ws n ≤ 4611686018427387904) : shE T ws n = 0 := by
  rw [shE_small hn hp]
  unfold splO
  rw [lenB_of (by omega) (by omega), decide_eq_true hpre]
  rfl
/-- What an item's last turn in a round does. -/
theorem stp_cases (t : Int) (y : Fl) :
    (y.fi = true → stpF t y = y) ∧
    (y.fi = false → t = 0 → stpF t y = { y with tg := y.it.lim y.tg, fi := true }) ∧
    (y.fi = false → 0 < t → 0 < y.it.lim y.tg - y.tg → stpF t y = { y with tg := y.it.lim y.tg, fi := true }) ∧
    (y.fi = false → 0 < t → ¬ 0 < y.it.lim y.tg - y.tg → stpF t y = y) ∧
    (y.fi = false → t < 0 → y.it.lim y.tg - y.tg < 0 → stpF t y = { y with tg := y.it.lim y.tg, fi := true }) ∧
    (y.fi = false → t < 0 → ¬ y.it.lim y.tg - y.tg < 0 → stpF t y = y) := by
  refine ⟨stp_fixed, fun h e => stp_now h ?_, fun h e q => stp_now h ?_, fun h e q => stp_not h ?_, fun h e q => stp_now h ?_, fun h e q => stp_not h ?_⟩
  all_goals unfold fixB
  · rw [e]; rfl
  · rw [decide_eq_true (show y.tg < y.it.lim y.tg by omega), decide_eq_true e]; simp
  · rw [decide_eq_false (show ¬ y.tg < y.it.lim y.tg by omega), decide_eq_false (show ¬ t < 0 by omega), show (t == 0) = false from by simp; omega]; simp
  · rw [decide_eq_true (show y.it.lim y.tg < y.tg by omega), decide_eq_true e]; simp
  · rw [decide_eq_false (show ¬ y.it.lim y.tg < y.tg by omega), decide_eq_false (show ¬ 0 < t by omega), show (t == 0) = false from by simp; omega]; simp
theorem last0 (g : Bool) (l : List Fx) : ∀ x ∈ l.map (newF g), Last g x := fun y hy => by
  obtain ⟨x, hx, rfl⟩ := List.mem_map.1 hy
  exact newF_last g x
theorem its0 (g : Bool) (l : List Fx) : (l.map (newF g)).map Fl.it = l := by
  rw [List.map_map]
  have : (Fl.it ∘ newF g) = id := by funext x; rfl
  rw [this, List.map_id]
theorem ext_bnd {l : List Fx} (hc : ∀ x ∈ l, Cut x) (hn : l.length ≤ 25) : -26843545575 ≤ sm Fx.extra l ∧ sm Fx.extra l ≤ 26843545575 := by
  have h1 : 0 ≤ sm (fun x : Fx => x.extra + 1073741823) l ∧ sm (fun x : Fx => x.extra + 1073741823) l ≤ 2147483646 * (l.length : Int) := sm_nn fun x hx => by
    have := (hc x hx).2.2.2.1
    show 0 ≤ x.extra + 1073741823 ∧ x.extra + 1073741823 ≤ 2147483646
    omega
  have h2 : sm (fun x : Fx => x.extra + 1073741823) l = sm Fx.extra l + 1073741823 * (l.length : Int) := by
    rw [sm_add]
    congr 1
    clear h1 hc hn
    induction l with
    | nil => rfl
    | cons x l ih => rw [sm_cons, ih, List.length_cons]; push_cast; rw [Int.mul_add]; omega
  omega
/-- The first free room: within bounds, of the right sign. -/
theorem first_ok {g : Bool} {room : Int} {st : List Fl} (hb : BI st) (hn : st.length ≤ 25) (hr : -137438953472 ≤ room ∧ room ≤ 137438953472) (hd : Dir g room st) : (-274877906944 ≤ room - sm Fl.now st ∧ room - sm Fl.now st ≤ 274877906944) ∧ ((g = true → 0 ≤ room - sm Fl.now st) ∧ (g = false → room - sm Fl.now st ≤ 0)) := by
  have h := now_room hb hn hr hd
  exact ⟨⟨h.1, h.2.1⟩, h.2.2.1, h.2.2.2⟩
theorem mul_bnd {a b A B : Int} (h1 : -A ≤ a) (h2 : a ≤ A) (h3 : 0 ≤ b) (h4 : b ≤ B) (hA : 0 ≤ A) : -(A * B) ≤ a * b ∧ a * b ≤ A * B := by
  have e1 := Int.mul_le_mul_of_nonneg_right h2 h3
  have e2 := Int.mul_le_mul_of_nonneg_left h4 hA
  have e3 := Int.mul_le_mul_of_nonneg_right h1 h3
  rw [Int.neg_mul] at e3
  omega
/-- What is shared, by what the machine reckons. -/
theorem shR_is {first F O P : Int} (hf : -274877906944 ≤ first ∧ first ≤ 274877906944) (hF : 0 ≤ F) (eP : wrap64 (first * F) / 4096 = P) : (if (decide (F < 4096) && decide (absI P < absI O)) = true then P else O) = shR first F O := by
  unfold shR
  by_cases h : F < 4096
  · have h1 := mul_bnd (A := 274877906944) (B := 4096) (a := first) (b := F) (by omega) (by omega) hF (by omega) (by omega)
    have h2 : wrap64 (first * F) = first * F := by unfold wrap64; omega
    rw [h2] at eP
    rw [if_pos h, eP, decide_eq_true h, Bool.true_and]
    simp only [decide_eq_true_eq]
  · rw [if_neg h, decide_eq_false h, Bool.false_and, if_neg (by simp)]
theorem stp_it (s : Int) (x : Fl) : (stpF s x).it = x.it := by
  unfold stpF
  split
  · rfl
  · split <;> rfl
theorem R19.fix {w : World} {s f b j : Nat} {M : List Fl} (h : R19 w s f b M) (hj : j < M.length) (t : Int) : R19 ((w.setCell ⟨s, j, none⟩ (.int .i64 t)).setCell ⟨b, j, none⟩ (.bool true)) s f b (M.set j { M.getD j fl0 with tg := t, fi := true }) := by
  have h1 := h.setTg fl0 t hj
  have h2 := h1.setFi fl0 true (j := j) (by rw [List.length_set]; exact hj)
  rw [show (M.set j { M.getD j fl0 with tg := t }).getD j fl0 = { M.getD j fl0 with tg := t } by simp [List.getD, hj], List.set_set] at h2
  exact h2
theorem wrap_fit (x : Int) : IFit (wrap64 x) := by unfold IFit wrap64; omega
end Go.Proofs.Ythofammjbicogaa
