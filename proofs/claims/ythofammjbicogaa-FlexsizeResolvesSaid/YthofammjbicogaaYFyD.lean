/-
  The reference of layer 19: Resolve.
-/
import Derived.Test.YthofammjbicogaaYFyE
import Derived.Test.YthofammjbicogaaZ10
import Derived.Test.YthofammjbicogaaZ6
namespace Go.Proofs.Ythofammjbicogaa
open Go.RowKit
set_option linter.unusedSimpArgs false
set_option linter.unusedVariables false

theorem sm_takeG {α : Type} {f : α → Int} {m : List α} {j : Nat} (d : α) (hj : j < m.length) : sm f (m.take (j + 1)) = sm f (m.take j) + f (m.getD j d) := by
  have app : ∀ (l : List α) (x : α), sm f (l ++ [x]) = sm f l + f x := fun l x => by
    induction l with
    | nil => show f x + 0 = 0 + f x; omega
    | cons y l ih => rw [List.cons_append, sm_cons, sm_cons, ih]; omega
  rw [List.take_succ_eq_append_getElem hj, app]
  congr 1
  simp [List.getD, hj]
theorem sm_bndG {α : Type} {f : α → Int} {A B : Int} : ∀ {m : List α}, (∀ x ∈ m, A ≤ f x ∧ f x ≤ B) → A * (m.length : Int) ≤ sm f m ∧ sm f m ≤ B * (m.length : Int)
  | [], _ => by simp [sm]
  | x :: l, h => by
    have h1 := h x List.mem_cons_self
    have h2 := sm_bndG (m := l) (fun y hy => h y (List.mem_cons_of_mem _ hy))
    rw [sm_cons, List.length_cons]
    push_cast
    rw [Int.mul_add, Int.mul_add]
    omega
/-- A slice that is made, of noughts. -/
def MkI (B n : Nat) (v : Value) (w : World) : Prop := ∃ b, v = .slice (some ⟨b, 0, none⟩) n n ∧ B ≤ b ∧ BlkI w b (List.replicate n 0)
def mkiC (B n : Nat) : EM.Cl := .own (MkI B n) (fun _ _ _ h hb => by obtain ⟨b, e, h1, h2⟩ := h; exact ⟨b, e, h1, h2.below hb⟩)
def MkB (B n : Nat) (v : Value) (w : World) : Prop := ∃ b, v = .slice (some ⟨b, 0, none⟩) n n ∧ B ≤ b ∧ Blk w b (List.replicate n (Value.bool false)).toArray 4
def mkbC (B n : Nat) : EM.Cl := .own (MkB B n) (fun _ _ _ h hb => by obtain ⟨b, e, h1, h2⟩ := h; exact ⟨b, e, h1, h2.below hb⟩)
theorem MkB.made {w : World} {B g n : Nat} (h : w.ownsRow B 4 1 (.slice (some ⟨g, 0, none⟩) n n) n (madeCells #[.bool false] n).toList) : Blk w g (List.replicate n (Value.bool false)).toArray 4 := by
  rcases h.2 with ⟨e, _⟩ | ⟨g', c, cur, e, _, hg, hl, hm, hs, ht⟩
  · simp at e
  · obtain ⟨rfl, rfl⟩ : g = g' ∧ n = c := by simpa using e
    rw [List.take_of_length_le (by rw [Array.length_toList]; omega), toList_madeCells_one] at ht
    unfold Blk
    rw [hg, ← ht]
theorem R19.made {w : World} {s f b n : Nat} {l : List Fx} (hl : l.length = n) (h1 : BlkI w s (List.replicate n 0)) (h2 : BlkI w f (List.replicate n 0)) (h3 : Blk w b (List.replicate n (Value.bool false)).toArray 4) (h4 : s ≠ f) (h5 : s ≠ b) (h6 : f ≠ b) : R19 w s f b (l.map s0F) := by
  have e1 : (l.map s0F).map Fl.tg = List.replicate n 0 := by
    rw [List.map_map, ← hl]; exact List.map_const' ..
  have e2 : (l.map s0F).map Fl.fa = List.replicate n 0 := by
    rw [List.map_map, ← hl]; exact List.map_const' ..
  have e3 : bolV (l.map s0F) = List.replicate n (Value.bool false) := by
    unfold bolV
    rw [List.map_map, ← hl]
    show l.map (fun _ => Value.bool false) = _
    exact List.map_const' ..
  unfold R19
  rw [e1, e2, e3]
  exact ⟨h1, h2, h3, h4, h5, h6⟩
/-- The walk goes on in a world of which only this is known. -/
theorem wp_world {P : Program} {c : Code} {Q : Exit → Act → World → Prop} {a : Act} {w : World} (R : World → Prop) (h : R w) (k : ∀ W, R W → c.wp P Q a W) : c.wp P Q a w := k w h
set_option maxRecDepth 100000 in
set_option maxHeartbeats 6400000 in
theorem ref19_resolve (al : Option Addr) (n cl : Nat) (l : List Fx) (avail : Int) (hn : n ≤ 25) (hl : l.length = n) (hc : ∀ x ∈ l, Cut x) (ha : -68719476736 ≤ avail ∧ avail ≤ 68719476736) (w : World) (hr : RowV w al n 7 (fxV l)) :
    Calls Try.prog 44 #[.slice al n cl, .int .i64 avail] w fun e w' => ∃ a xs, e = .returned (.slice a n n) ∧ resO avail l = some xs ∧ RowI w' a n xs ∧ Below w.heap.size w w' := by
  obtain ⟨i0, hi, hz0, hz1, hz2⟩ := info_parts (show (Try.prog.info? 2).map (fun i => (i.zero, i.size, i.bytes)) = some (some (.int .i64 0), 1, 8) by kernel_rfl)
  obtain ⟨j0, ji, jz0, jz1, jz2⟩ := info_parts (show (Try.prog.info? 4).map (fun i => (i.zero, i.size, i.bytes)) = some (some (.bool false), 1, 1) by kernel_rfl)
  obtain ⟨g, first, m, eg, -, ef, elo, ers, -, hdm, hbm, hdir, hla, hit, hb0, hd0⟩ := flex_ok hc (by omega) ha
  obtain ⟨Q, eQ⟩ : ∃ Q : Ending → World → Prop, Q = fun e w' => ∃ a xs, e = .returned (.slice a n n) ∧ resO avail l = some xs ∧ RowI w' a n xs ∧ Below w.heap.size w w' := ⟨_, rfl⟩
  rw [← eQ]
  have EQ := Lib.hid eQ
  have HR := Lib.hid hr
  have HL := Lib.hid hl
  have HC := Lib.hid hc
  have EG := Lib.hid eg
  have EF := Lib.hid ef
  have ELO := Lib.hid elo
  have ERS := Lib.hid ers
  have HB0 := Lib.hid hb0
  have HD0 := Lib.hid hd0
  clear eQ hr hl hc eg ef elo ers hdm hbm hdir hla hit hb0 hd0
  go_enter Try.func44, Try.ntmps44
  go_wp2_with fail
  go_upto_region 2 with (fail)
  rename_i K0 hK0
  refine EM.wp_region_calm (n) (fun w' => Below w.heap.size w w') [] (fun w' => True) [EM.Is (.int .i64 ((n : Int))), mkiC w.heap.size n, EM.Is (.int .i64 ((n : Int))), mkiC w.heap.size n, EM.Is (.int .i64 ((n : Int))), mkbC w.heap.size n, .same 1, .same 3, .same 5] [1, 3, 5] (by kernel_rfl) (by kernel_rfl) (by kernel_rfl) (by kernel_rfl) (Below.refl _ _).drew trivial ?_ ?_ ?_ ?_ ?_
  · rintro W W' hBB hb
    exact hBB.trans (hb.mono hBB.size)
  · exact fun _ _ _ _ _ => trivial
  · intro k vs W hk h
    rcases (by simpa using hk : k = 1 ∨ k = 3 ∨ k = 5) with rfl | rfl | rfl <;> (obtain ⟨b, e, h1, h2⟩ := h; exact ⟨b, e, h2.lt⟩)
  · intro Q; clear hK0 
    refine ⟨?_, ?_, ?_, ?_, ?_, ?_, ?_, ?_, ?_, trivial⟩
    · intro vs W hW hW0 hd hne hold K hK hA hL; clear hne hA hL; have hBB := hW; simp only [puts, Act.put, List.setIfInBounds_toArray, List.set_cons_zero, List.set_cons_succ, Nat.zero_add, Nat.reduceAdd] at hK ⊢; clear hd hold; go_simp; exact hK.out rfl _ _ (Below.refl _ _) rfl
    · intro vs W hW hW0 hd hne hold K hK hA hL; clear hne hK hL; have hBB := hW; simp only [puts, Act.put, List.setIfInBounds_toArray, List.set_cons_zero, List.set_cons_succ, Nat.zero_add, Nat.reduceAdd] at hA ⊢; have eb : vs 0 = _ := hd 0 (by kernel_rfl); clear hd hold; simp only [eb] at hA; (obtain ⟨w', hrun, r1, r2⟩ := run_make_full (P := Try.prog) W w.heap.size 31 2 i0 (.int .i64 0) 1 Try.underlying31 hi hz0 hz1 .i64 .i64 n (by rw [hz2]; omega) (by unfold maxLen; omega) hBB.size); go_simp; have hb3 : Below W.heap.size W w' := (Below.refl _ W).grown r2 (Nat.le_refl _) (fun _ h => by cases h); exact hA.out W.heap.size _ hb3 (Nat.le_refl _) ⟨W.heap.size, rfl, hBB.size, BlkI.made (by rw [Nat.mul_one] at r1; exact r1)⟩
    · intro vs W hW hW0 hd hne hold K hK hA hL; clear hne hA hL; have hBB := hW; simp only [puts, Act.put, List.setIfInBounds_toArray, List.set_cons_zero, List.set_cons_succ, Nat.zero_add, Nat.reduceAdd] at hK ⊢; clear hd hold; go_simp; exact hK.out rfl _ _ (Below.refl _ _) rfl
    · intro vs W hW hW0 hd hne hold K hK hA hL; clear hne hK hL; have hBB := hW; simp only [puts, Act.put, List.setIfInBounds_toArray, List.set_cons_zero, List.set_cons_succ, Nat.zero_add, Nat.reduceAdd] at hA ⊢; have eb : vs 2 = _ := hd 2 (by kernel_rfl); clear hd hold; simp only [eb] at hA; (obtain ⟨w', hrun, r1, r2⟩ := run_make_full (P := Try.prog) W w.heap.size 31 2 i0 (.int .i64 0) 1 Try.underlying31 hi hz0 hz1 .i64 .i64 n (by rw [hz2]; omega) (by unfold maxLen; omega) hBB.size); go_simp; have hb3 : Below W.heap.size W w' := (Below.refl _ W).grown r2 (Nat.le_refl _) (fun _ h => by cases h); exact hA.out W.heap.size _ hb3 (Nat.le_refl _) ⟨W.heap.size, rfl, hBB.size, BlkI.made (by rw [Nat.mul_one] at r1; exact r1)⟩
    · intro vs W hW hW0 hd hne hold K hK hA hL; clear hne hA hL; have hBB := hW; simp only [puts, Act.put, List.setIfInBounds_toArray, List.set_cons_zero, List.set_cons_succ, Nat.zero_add, Nat.reduceAdd] at hK ⊢; clear hd hold; go_simp; exact hK.out rfl _ _ (Below.refl _ _) rfl
    · intro vs W hW hW0 hd hne hold K hK hA hL; clear hne hK hL; have hBB := hW; simp only [puts, Act.put, List.setIfInBounds_toArray, List.set_cons_zero, List.set_cons_succ, Nat.zero_add, Nat.reduceAdd] at hA ⊢; have eb : vs 4 = _ := hd 4 (by kernel_rfl); clear hd hold; simp only [eb] at hA; (obtain ⟨w', hrun, r1, r2⟩ := run_make_full (P := Try.prog) W w.heap.size 119 4 j0 (.bool false) 1 Try.underlying119 ji jz0 jz1 .i64 .i64 n (by rw [jz2]; omega) (by unfold maxLen; omega) hBB.size); go_simp; have hb3 : Below W.heap.size W w' := (Below.refl _ W).grown r2 (Nat.le_refl _) (fun _ h => by cases h); exact hA.out W.heap.size _ hb3 (Nat.le_refl _) ⟨W.heap.size, rfl, hBB.size, MkB.made (by rw [Nat.mul_one] at r1; exact r1)⟩
    · intro vs W hW hW0 hd hne hold K hK hA hL; clear hne hA hL; have hBB := hW; simp only [puts, Act.put, List.setIfInBounds_toArray, List.set_cons_zero, List.set_cons_succ, Nat.zero_add, Nat.reduceAdd] at hK ⊢; clear hd hold; go_simp; exact hK.out rfl _ _ (Below.refl _ _) rfl
    · intro vs W hW hW0 hd hne hold K hK hA hL; clear hne hA hL; have hBB := hW; simp only [puts, Act.put, List.setIfInBounds_toArray, List.set_cons_zero, List.set_cons_succ, Nat.zero_add, Nat.reduceAdd] at hK ⊢; clear hd hold; go_simp; exact hK.out rfl _ _ (Below.refl _ _) rfl
    · intro vs W hW hW0 hd hne hold K hK hA hL; clear hne hA hL; have hBB := hW; simp only [puts, Act.put, List.setIfInBounds_toArray, List.set_cons_zero, List.set_cons_succ, Nat.zero_add, Nat.reduceAdd] at hK ⊢; clear hd hold; go_simp; exact hK.out rfl _ _ (Below.refl _ _) rfl
  · intro va WB hW hV hneV
    have h6 : va 6 = va 1 := hV 6 (by decide)
    have h7 : va 7 = va 3 := hV 7 (by decide)
    have h8 : va 8 = va 5 := hV 8 (by decide)
    have m1 : MkI w.heap.size n (va 1) WB := hV 1 (by decide)
    have m3 : MkI w.heap.size n (va 3) WB := hV 3 (by decide)
    have m5 : MkB w.heap.size n (va 5) WB := hV 5 (by decide)
    have n1 := hneV 1 3 (by decide) (by decide) (by decide) (by decide)
    have n2 := hneV 1 5 (by decide) (by decide) (by decide) (by decide)
    have n3 := hneV 3 5 (by decide) (by decide) (by decide) (by decide)
    obtain ⟨s, e1, hs0, t1⟩ := m1
    obtain ⟨f, e3, hf0, t3⟩ := m3
    obtain ⟨b, e5, hb0, t5⟩ := m5
    have d1 : s ≠ f := fun e => n1 (by rw [e1, e3, e])
    have d2 : s ≠ b := fun e => n2 (by rw [e1, e5, e])
    have d3 : f ≠ b := fun e => n3 (by rw [e3, e5, e])
    rw [e1] at h6
    rw [e3] at h7
    rw [e5] at h8
    have hS := R19.made HL.out t1 t3 t5 d1 d2 d3
    have HS := Lib.hid hS
    have HBW := Lib.hid hW
    simp only [puts, Act.put, List.setIfInBounds_toArray, List.set_cons_zero, List.set_cons_succ, Nat.zero_add, Nat.reduceAdd, h6, h7, h8]
    clear hV hneV n1 n2 n3 e1 e3 e5 t1 t3 t5 h6 h7 h8 hS hW
    refine hK0 _ _ ?_
    clear hK0
    go_wp2_with fail
    go_loopg [9, 10] n (fun gk s9 s10 wr => ∃ (j : Nat), j ≤ n ∧ gk = n - j ∧ s9 = .int .i64 (sm (fun x => x.lim x.base + x.extra) (l.take j)) ∧ s10 = .int .i64 ((j : Int)) ∧ R19 wr s f b (mix (l.map s1F) (l.map s0F) j) ∧ Below w.heap.size w wr)
    case atStart => exact ⟨0, by omega, by omega, by simp [sm], rfl, by rw [mix_zero]; exact HS.out, HBW.out⟩
    case round =>
      obtain ⟨j, hj, rfl, rfl, rfl, hS, hB⟩ := hrel
      have RS := Lib.hid hS
      have RB := Lib.hid hB
      by_cases hjk : j < n
      ·
        as_aux_lemma =>
          have ix : (j : Int) < (n : Int) := by omega
          have hjl : j < l.length := by rw [HL.out]; exact hjk
          obtain ⟨g1, o1, rfl, hg1, hF⟩ := fx_at HR.out HL.out hjk
          have hcx : Cut (l.getD j fx0) := at_fx HC.out hjl
          have e11 : (l.map s1F).length = (l.map s0F).length := by rw [List.length_map, List.length_map]
          have e12 : j < (l.map s0F).length := by rw [List.length_map]; exact hjl
          have em := mix_len (j := j) e11
          have hst : mix (l.map s1F) (l.map s0F) (j + 1) = (mix (l.map s1F) (l.map s0F) j).set j { (mix (l.map s1F) (l.map s0F) j).getD j fl0 with tg := (l.getD j fx0).lim (l.getD j fx0).base } := by
            rw [← mix_set e11 fl0 e12, mix_get e11 fl0 e12, getD_map s1F l fx0 fl0 hjl, getD_map s0F l fx0 fl0 hjl]
            rfl
          have hjm : j < (mix (l.map s1F) (l.map s0F) j).length := by rw [em, List.length_map]; exact hjl
          have ht := sm_takeG (f := fun x : Fx => x.lim x.base + x.extra) fx0 hjl
          have hbb := sm_bndG (f := fun x : Fx => x.lim x.base + x.extra) (A := -1073741823) (B := 2147483646) (m := l.take j) (fun z hz => by
            have q := HC.out z (List.mem_of_mem_take hz)
            have q1 := q.lim
            have q2 := q.2.2.2.1
            show _ ≤ z.lim z.base + z.extra ∧ z.lim z.base + z.extra ≤ _
            omega)
          have hlt : (l.take j).length ≤ 25 := by rw [List.length_take]; omega
          have hq1 := hcx.lim
          have hq2 := hcx.2.2.2.1
          obtain ⟨x, ex⟩ : ∃ x, l.getD j fx0 = x := ⟨_, rfl⟩
          rw [ex] at hF hst ht hq1 hq2
          have hsv := hS.setTg fl0 (x.lim x.base) hjm
          rw [← hst] at hsv
          have WI := fun W => ref19_within x x.base W
          obtain ⟨lt, elt⟩ : ∃ t, x.lim x.base = t := ⟨_, rfl⟩
          obtain ⟨S, eS⟩ : ∃ s, sm (fun x : Fx => x.lim x.base + x.extra) (l.take j) = s := ⟨_, rfl⟩
          have ht2 : sm (fun x : Fx => x.lim x.base + x.extra) (l.take (j + 1)) = S + (lt + x.extra) := by rw [ht, eS, ← elt]
          rw [eS] at hbb
          rw [elt] at hsv hq1 WI hst
          rw [eS]
          have hB1 : -26843545575 ≤ S ∧ S ≤ 53687091150 := by omega
          have HT := Lib.hid ht2
          have HF := Lib.hid (show ∀ W, Below w.heap.size w W → FxAt W g1 (o1 + j * 7) x from fun W hW => FxAt.below hF hg1 hW)
          have HST := Lib.hid hst
          have etg : ((mix (l.map s1F) (l.map s0F) (j + 1)).getD j fl0).tg = lt := by rw [hst]; simp [List.getD, hjm]
          have hjm2 : j < (mix (l.map s1F) (l.map s0F) (j + 1)).length := by rw [hst, List.length_set]; exact hjm
          have ETG := Lib.hid etg
          clear hF etg
          clear ht hbb hlt eS elt ex hcx ht2 hsv hst e11 e12 em hS hg1 hB
          unfold Fx.val at WI
          go_upto_region 7 with (fail)
          rename_i K1 hK1
          refine wp_region_calm (fun w' => Below w.heap.size w w') [13] (fun w' => R19 w' s f b (mix (l.map s1F) (l.map s0F) j)) [Is (.slice (some ⟨s, 0, none⟩) n n), Is (.int .i64 ((j : Int))), Is (.slice (some ⟨g1, o1, none⟩) n cl), Is (.int .i64 ((j : Int))), Is (.pointer (some ⟨g1, o1 + j * 7, none⟩)), Is x.val, Is (.slice (some ⟨g1, o1, none⟩) n cl), Is (.int .i64 ((j : Int))), Is (.pointer (some ⟨g1, o1 + j * 7, none⟩)), Is (.pointer (some ⟨g1, o1 + j * 7, none⟩)), Is (.int .i64 x.base), Is (.int .i64 lt), Is (.pointer (some ⟨s, j, none⟩)), .own (fun _ w' => R19 w' s f b (mix (l.map s1F) (l.map s0F) (j + 1))) (fun _ _ _ h hb => h.below hb)] [] (by kernel_rfl) (by kernel_rfl) (by kernel_rfl) (by kernel_rfl) RB.out.drew RS.out ?_ ?_ ?_ ?_ ?_
          · rintro W W' hBB hb
            exact hBB.trans (hb.mono hBB.size)
          · intro W W' hB h0 hb; exact h0.below hb
          · intro k vs W hk h
            exact absurd hk (by simp)
          · intro Q; clear hK1 
            refine ⟨?_, ?_, ?_, ?_, ?_, ?_, ?_, ?_, ?_, ?_, ?_, ?_, ?_, ?_, trivial⟩
            · intro vs W hW hW0 hd hne hold K hK hA hL; clear hne hA hL; have hBB := hW; simp only [puts, Act.put, List.setIfInBounds_toArray, List.set_cons_zero, List.set_cons_succ, Nat.zero_add, Nat.reduceAdd] at hK ⊢; clear hd hold; go_simp; exact hK.out rfl _ _ (Below.refl _ _) rfl
            · intro vs W hW hW0 hd hne hold K hK hA hL; clear hne hA hL; have hBB := hW; simp only [puts, Act.put, List.setIfInBounds_toArray, List.set_cons_zero, List.set_cons_succ, Nat.zero_add, Nat.reduceAdd] at hK ⊢; clear hd hold; go_simp; exact hK.out rfl _ _ (Below.refl _ _) rfl
            · intro vs W hW hW0 hd hne hold K hK hA hL; clear hne hA hL; have hBB := hW; simp only [puts, Act.put, List.setIfInBounds_toArray, List.set_cons_zero, List.set_cons_succ, Nat.zero_add, Nat.reduceAdd] at hK ⊢; clear hd hold; go_simp; exact hK.out rfl _ _ (Below.refl _ _) rfl
            · intro vs W hW hW0 hd hne hold K hK hA hL; clear hne hA hL; have hBB := hW; simp only [puts, Act.put, List.setIfInBounds_toArray, List.set_cons_zero, List.set_cons_succ, Nat.zero_add, Nat.reduceAdd] at hK ⊢; clear hd hold; go_simp; exact hK.out rfl _ _ (Below.refl _ _) rfl
            · intro vs W hW hW0 hd hne hold K hK hA hL; clear hne hA hL; have hBB := hW; simp only [puts, Act.put, List.setIfInBounds_toArray, List.set_cons_zero, List.set_cons_succ, Nat.zero_add, Nat.reduceAdd] at hK ⊢; have e2 : vs 2 = _ := hd 2 (by kernel_rfl); have e3 : vs 3 = _ := hd 3 (by kernel_rfl); clear hd hold; simp only [e2, e3] at hK; go_simp; exact hK.out rfl _ _ (Below.refl _ _) rfl
            · intro vs W hW hW0 hd hne hold K hK hA hL; clear hne hA hL; have hBB := hW; simp only [puts, Act.put, List.setIfInBounds_toArray, List.set_cons_zero, List.set_cons_succ, Nat.zero_add, Nat.reduceAdd] at hK ⊢; obtain ⟨h0, h1, h2, h3, h4, h5, h6⟩ := HF.out W hBB; have eb : vs 4 = _ := hd 4 (by kernel_rfl); clear hd hold; simp only [eb, Fx.val] at hK ⊢; go_simp; exact hK.out rfl _ _ (Below.refl _ _) rfl
            · intro vs W hW hW0 hd hne hold K hK hA hL; clear hne hA hL; have hBB := hW; simp only [puts, Act.put, List.setIfInBounds_toArray, List.set_cons_zero, List.set_cons_succ, Nat.zero_add, Nat.reduceAdd] at hK ⊢; clear hd hold; go_simp; exact hK.out rfl _ _ (Below.refl _ _) rfl
            · intro vs W hW hW0 hd hne hold K hK hA hL; clear hne hA hL; have hBB := hW; simp only [puts, Act.put, List.setIfInBounds_toArray, List.set_cons_zero, List.set_cons_succ, Nat.zero_add, Nat.reduceAdd] at hK ⊢; clear hd hold; go_simp; exact hK.out rfl _ _ (Below.refl _ _) rfl
            · intro vs W hW hW0 hd hne hold K hK hA hL; clear hne hA hL; have hBB := hW; simp only [puts, Act.put, List.setIfInBounds_toArray, List.set_cons_zero, List.set_cons_succ, Nat.zero_add, Nat.reduceAdd] at hK ⊢; have e6 : vs 6 = _ := hd 6 (by kernel_rfl); have e7 : vs 7 = _ := hd 7 (by kernel_rfl); clear hd hold; simp only [e6, e7] at hK; go_simp; exact hK.out rfl _ _ (Below.refl _ _) rfl
            · intro vs W hW hW0 hd hne hold K hK hA hL; clear hne hA hL; have hBB := hW; simp only [puts, Act.put, List.setIfInBounds_toArray, List.set_cons_zero, List.set_cons_succ, Nat.zero_add, Nat.reduceAdd] at hK ⊢; have e8 : vs 8 = _ := hd 8 (by kernel_rfl); clear hd hold; simp only [e8] at hK; go_simp; exact hK.out rfl _ _ (Below.refl _ _) rfl
            · intro vs W hW hW0 hd hne hold K hK hA hL; clear hne hA hL; have hBB := hW; simp only [puts, Act.put, List.setIfInBounds_toArray, List.set_cons_zero, List.set_cons_succ, Nat.zero_add, Nat.reduceAdd] at hK ⊢; obtain ⟨h0, h1, h2, h3, h4, h5, h6⟩ := HF.out W hBB; have eb : vs 9 = _ := hd 9 (by kernel_rfl); clear hd hold; simp only [eb] at hK; go_simp; exact hK.out rfl _ _ (Below.refl _ _) rfl
            · intro vs W hW hW0 hd hne hold K hK hA hL; clear hne hA hL; have hBB := hW; simp only [puts, Act.put, List.setIfInBounds_toArray, List.set_cons_zero, List.set_cons_succ, Nat.zero_add, Nat.reduceAdd] at hK ⊢; have eb : vs 5 = _ := hd 5 (by kernel_rfl); have ed : vs 10 = _ := hd 10 (by kernel_rfl); clear hd hold; simp only [eb, ed] at hK; go_simp; refine (WI W).mono ?_; (rintro e wx ⟨rfl, hbx⟩); go_simp; exact hK.out rfl _ _ hbx rfl
            · intro vs W hW hW0 hd hne hold K hK hA hL; clear hne hA hL; have hBB := hW; simp only [puts, Act.put, List.setIfInBounds_toArray, List.set_cons_zero, List.set_cons_succ, Nat.zero_add, Nat.reduceAdd] at hK ⊢; have e0 : vs 0 = _ := hd 0 (by kernel_rfl); have e1 : vs 1 = _ := hd 1 (by kernel_rfl); clear hd hold; simp only [e0, e1] at hK; go_simp; exact hK.out rfl _ _ (Below.refl _ _) rfl
            · intro vs W hW hW0 hd hne hold K hK hA hL; clear hK hA; have hBB := hW; simp only [puts, Act.put, List.setIfInBounds_toArray, List.set_cons_zero, List.set_cons_succ, Nat.zero_add, Nat.reduceAdd] at hL ⊢; have hS := hW0 (by kernel_rfl); have ea : vs 12 = _ := hd 12 (by kernel_rfl); have ev : vs 11 = _ := hd 11 (by kernel_rfl); have q1 := hS.tg hjm; have q2 := hS.1.free j; have q3 := hS.setTg fl0 lt hjm; clear hd hold hW0; simp only [ea, ev] at hL ⊢; go_simp; refine hL.out rfl undef _ (show Below w.heap.size w (W.setCell ⟨s, j, none⟩ (.int .i64 lt)) from (by repeat' (first | (with_reducible exact Below.refl _ _) | (with_reducible assumption) | (with_reducible refine below_alloc ?_ _ ?_) | (with_reducible refine below_set _ ?_ ?_) | (with_reducible refine Below.drew ?_) | (with_reducible refine below_dN ?_ _) | (apply below_thenA; assumption) | omega | (simp; done) | (simp; omega) | (simp [*]; done)))) (fun h => absurd h (by decide)) (by rw [HST.out]; exact q3) ?_; exact claims_keep ⟨.inr is_keep, .inr is_keep, .inr is_keep, .inr is_keep, .inr is_keep, .inr is_keep, .inr is_keep, .inr is_keep, .inr is_keep, .inr is_keep, .inr is_keep, .inr is_keep, .inr is_keep, .inl rfl, trivial⟩
          · intro vb WC hW1 hV1 _
            have hS2 : R19 WC s f b (mix (l.map s1F) (l.map s0F) (j + 1)) := hV1 13 (by decide)
            simp only [puts, Act.put, List.setIfInBounds_toArray, List.set_cons_zero, List.set_cons_succ, Nat.zero_add, Nat.reduceAdd]
            refine hK1 _ _ ?_
            clear hK1 hV1
            obtain ⟨h0, h1, h2, h3, h4, h5, h6⟩ := HF.out WC hW1
            have c1 := hS2.tg hjm2
            rw [ETG.out] at c1
            have RS2 := Lib.hid hS2
            have RB2 := Lib.hid hW1
            clear hS2 hW1 h0 h1 h2 h3 h5 h6 hjm hjm2 WI
            go_quiet (fail)
            go_wp2_with fail
            go_roundg (n - (j + 1))
            case measure => omega
            case rel => exact ⟨j + 1, by omega, rfl, by rw [HT.out], by go_num, RS2.out, below_dN RB2.out _⟩
      · obtain rfl : n = j := by omega
        have ix : ¬ (n : Int) < (n : Int) := by omega
        clear ix
        rw [List.take_of_length_le (by rw [HL.out]; omega)]
        have hS1 := hS
        have e11 : (l.map s1F).length = (l.map s0F).length := by rw [List.length_map, List.length_map]
        have e12 := mix_all e11
        rw [List.length_map, HL.out] at e12
        rw [e12] at hS1
        have RS1 := Lib.hid hS1
        have hsp := sm_add (f := fun x : Fx => x.lim x.base) (g := Fx.extra) (l := l)
        have hgr : decide (sm (fun x : Fx => x.lim x.base + x.extra) l < avail) = g := by
          rw [EG.out, hsp]
          refine decide_eq_decide.2 ?_
          omega
        obtain ⟨S, eS⟩ : ∃ s, sm (fun x : Fx => x.lim x.base + x.extra) l = s := ⟨_, rfl⟩
        rw [eS] at hgr ⊢
        clear hS hS1 hB e11 e12 hsp eS RS HS HBW
        have ix : ¬ (n : Int) < (n : Int) := by omega
        go_wp2_with fail
        go_loopg [12] n (fun gk s12 wr => ∃ (j : Nat), j ≤ n ∧ gk = n - j ∧ s12 = .int .i64 ((j : Int)) ∧ R19 wr s f b (mix (l.map (newF g)) (l.map s1F) j) ∧ Below w.heap.size w wr)
        case atStart => exact ⟨0, by omega, by omega, rfl, by rw [mix_zero]; exact RS1.out, RB.out⟩
        case round =>
          clear hgr
          obtain ⟨j, hj, rfl, rfl, hS, hB⟩ := hrel
          have RS := Lib.hid hS
          have RB := Lib.hid hB
          by_cases hjk : j < n
          ·
            as_aux_lemma =>
              have ix : (j : Int) < (n : Int) := by omega
              have hjl : j < l.length := by rw [HL.out]; exact hjk
              obtain ⟨g1, o1, rfl, hg1, hF⟩ := fx_at HR.out HL.out hjk
              have e11 : (l.map (newF g)).length = (l.map s1F).length := by rw [List.length_map, List.length_map]
              have e12 : j < (l.map s1F).length := by rw [List.length_map]; exact hjl
              have em := mix_len (j := j) e11
              have hgd := mix_get e11 fl0 e12
              rw [getD_map s1F l fx0 fl0 hjl] at hgd
              have hst := mix_set e11 fl0 e12
              rw [getD_map (newF g) l fx0 fl0 hjl] at hst
              have hjm : j < (mix (l.map (newF g)) (l.map s1F) j).length := by rw [em, List.length_map]; exact hjl
              obtain ⟨x, ex⟩ : ∃ x, l.getD j fx0 = x := ⟨_, rfl⟩
              rw [ex] at hF hst hgd
              obtain ⟨M, eM⟩ : ∃ M, mix (l.map (newF g)) (l.map s1F) j = M := ⟨_, rfl⟩
              rw [eM] at hst hgd hjm hS
              have HST := Lib.hid hst
              have HGD := Lib.hid hgd
              have h5 := FxAt.below hF hg1 hB
              obtain ⟨h0, h1, h2, h3, h4, h5, h6⟩ := h5
              have c1 := hS.fa hjm
              have f1 := hS.2.1.free j
              rw [hgd] at c1
              have hgf : g1 ≠ f := by omega
              have hgs : g1 ≠ s := by omega
              have hgb : g1 ≠ b := by omega
              have HS := Lib.hid hS
              have HF := Lib.hid (show ∀ W, Below w.heap.size w W → FxAt W g1 (o1 + j * 7) x from fun W hW => FxAt.below hF hg1 hW)
              have HX := Lib.hid (show newF g x = ⟨x, x.lim x.base, if g = true then x.grow else x.shrink, ((if g = true then x.grow else x.shrink) == 0) || (g && decide (x.lim x.base < x.base)) || (!g && decide (x.base < x.lim x.base))⟩ from rfl)
              obtain ⟨fac, efac⟩ : ∃ t, (if g = true then x.grow else x.shrink) = t := ⟨_, rfl⟩
              clear hst hgd hF h0 h1 h2 h3 h4 e11 e12 em eM ex hjl hg1 RS
              have q1 := HS.out.setFa fl0 x.shrink hjm
              have hjm3 : j < (M.set j { M.getD j fl0 with fa := x.shrink }).length := by rw [List.length_set]; exact hjm
              have q2 := q1.setFa fl0 x.grow hjm3
              have e9 : (M.set j { M.getD j fl0 with fa := x.shrink }).set j { (M.set j { M.getD j fl0 with fa := x.shrink }).getD j fl0 with fa := x.grow } = M.set j { M.getD j fl0 with fa := x.grow } := by simp [List.getD, hjm]
              rw [e9] at q2
              have Q1 := Lib.hid q1
              have Q2 := Lib.hid q2
              have EFA := Lib.hid efac
              clear e9 q1 q2 hjm3 efac
              have hjm4 : j < (M.set j { M.getD j fl0 with fa := fac }).length := by rw [List.length_set]; exact hjm
              have hc2 : ∀ W, R19 W s f b (M.set j { M.getD j fl0 with fa := fac }) → W.cell? ⟨f, j, none⟩ = some (.int .i64 fac) ∧ W.cell? ⟨s, j, none⟩ = some (.int .i64 (x.lim x.base)) ∧ W.cell? ⟨b, j, none⟩ = some (.bool false) ∧ W.frozen? ⟨b, j, none⟩ = false := fun W h => by
                have c2 := h.fa hjm4
                have c3 := h.tg hjm4
                have c4 := h.fi hjm4
                have f4 := h.2.2.1.free j
                rw [show (M.set j { M.getD j fl0 with fa := fac }).getD j fl0 = { M.getD j fl0 with fa := fac } by simp [List.getD, hjm]] at c2 c3 c4
                have hgd := HGD.out
                rw [hgd] at c3 c4
                exact ⟨c2, c3, c4, f4⟩
              have efi := HX.out
              rw [EFA.out] at efi
              have hq3 : ∀ fi, newF g x = ⟨x, x.lim x.base, fac, fi⟩ → ∀ W, R19 W s f b (M.set j { M.getD j fl0 with fa := fac }) → R19 (W.setCell ⟨b, j, none⟩ (.bool fi)) s f b (mix (l.map (newF g)) (l.map s1F) (j + 1)) := fun fi e W h => by
                have q := h.setFi fl0 fi hjm4
                rw [show (M.set j { M.getD j fl0 with fa := fac }).getD j fl0 = { M.getD j fl0 with fa := fac } by simp [List.getD, hjm], List.set_set] at q
                rw [← HST.out, e]
                rw [HGD.out] at q
                exact q
              obtain ⟨lt, elt⟩ : ∃ t, x.lim x.base = t := ⟨_, rfl⟩
              rw [elt] at hc2 hq3 efi
              have Q3 := Lib.hid hq3
              have HC2 := Lib.hid hc2
              have EFI := Lib.hid efi
              clear hq3 hc2 hjm hjm4 elt efi HGD HST HX
              cases g
              · go_upto_region 16 with (fail)
                refine wp_world (fun wx => R19 wx s f b (M.set j { M.getD j fl0 with fa := fac }) ∧ Below w.heap.size w wx) ?_ ?_
                · refine ⟨?_, (by repeat' (first | (with_reducible exact Below.refl _ _) | (with_reducible assumption) | (with_reducible refine below_alloc ?_ _ ?_) | (with_reducible refine below_set _ ?_ ?_) | (with_reducible refine Below.drew ?_) | (with_reducible refine below_dN ?_ _) | (apply below_thenA; assumption) | omega | (simp; done) | (simp; omega) | (simp [*]; done)))⟩
                  have e := EFA.out
                  simp only [Bool.false_eq_true, if_false, if_true] at e
                  rw [← e]
                  exact Q1.out
                rintro wq ⟨hS2, hB2⟩
                have HB2 := Lib.hid hB2
                have HS2 := Lib.hid hS2
                obtain ⟨c2, c3, c4, f4⟩ := HC2.out wq HS2.out
                obtain ⟨h0, h1, h2, h3, h4, h5, h6⟩ := HF.out wq HB2.out
                clear hS2 hB2 c1 f1 h1 h2 h3 h4 h5 h6 Q1 Q2 EFA HC2
                by_cases q0 : fac = 0
                · have hfi : newF false x = ⟨x, lt, fac, true⟩ := by rw [EFI.out, q0]; rfl
                  refine wp_region_quiet_last (by kernel_rfl) (by kernel_rfl) (by rfl) (by rfl) ?_
                  dsimp only [List.dropLast]
                  repeat (go_big_quiet_step (fail))
                  refine wpQuiet_nil ?_
                  intro _ hw'
                  obtain ⟨nq, hw''⟩ := hw'
                  subst hw''
                  intro K hK
                  go_simp
                  refine hK _ _ ?_
                  clear hK K
                  have hB2 := HB2.out
                  have hS3 := Q3.out true hfi _ (HS2.out.below (below_dN (Below.refl _ _) nq))
                  have hB3 : Below w.heap.size w ((wq.drewN nq).setCell ⟨b, j, none⟩ (.bool true)) := (by repeat' (first | (with_reducible exact Below.refl _ _) | (with_reducible assumption) | (with_reducible refine below_alloc ?_ _ ?_) | (with_reducible refine below_set _ ?_ ?_) | (with_reducible refine Below.drew ?_) | (with_reducible refine below_dN ?_ _) | (apply below_thenA; assumption) | omega | (simp; done) | (simp; omega) | (simp [*]; done)))
                  obtain ⟨wz, ez⟩ : ∃ W, (wq.drewN nq).setCell ⟨b, j, none⟩ (.bool true) = W := ⟨_, rfl⟩
                  rw [ez] at hS3 hB3
                  rw [ez]
                  have RS3 := Lib.hid hS3
                  have RB3 := Lib.hid hB3
                  clear hS3 hB3 hB2 ez c2 c3 c4 f4 h0 hfi Q3 HS2 HB2 EFI HF
                  go_wp2_with fail
                  go_roundg (n - (j + 1))
                  case measure => omega
                  case rel => exact ⟨j + 1, by omega, rfl, by go_num, RS3.out, RB3.out⟩
                · have q0b : (fac == 0) = false := by simp [q0]
                  by_cases q1 : x.base < lt
                  · have hfi : newF false x = ⟨x, lt, fac, true⟩ := by rw [EFI.out]; simp [q1]
                    refine wp_region_quiet_last (by kernel_rfl) (by kernel_rfl) (by rfl) (by rfl) ?_
                    dsimp only [List.dropLast]
                    repeat (go_big_quiet_step (fail))
                    refine wpQuiet_nil ?_
                    intro _ hw'
                    obtain ⟨nq, hw''⟩ := hw'
                    subst hw''
                    intro K hK
                    go_simp
                    refine hK _ _ ?_
                    clear hK K
                    have hB2 := HB2.out
                    have hS3 := Q3.out true hfi _ (HS2.out.below (below_dN (Below.refl _ _) nq))
                    have hB3 : Below w.heap.size w ((wq.drewN nq).setCell ⟨b, j, none⟩ (.bool true)) := (by repeat' (first | (with_reducible exact Below.refl _ _) | (with_reducible assumption) | (with_reducible refine below_alloc ?_ _ ?_) | (with_reducible refine below_set _ ?_ ?_) | (with_reducible refine Below.drew ?_) | (with_reducible refine below_dN ?_ _) | (apply below_thenA; assumption) | omega | (simp; done) | (simp; omega) | (simp [*]; done)))
                    obtain ⟨wz, ez⟩ : ∃ W, (wq.drewN nq).setCell ⟨b, j, none⟩ (.bool true) = W := ⟨_, rfl⟩
                    rw [ez] at hS3 hB3
                    rw [ez]
                    have RS3 := Lib.hid hS3
                    have RB3 := Lib.hid hB3
                    clear hS3 hB3 hB2 ez c2 c3 c4 f4 h0 hfi Q3 HS2 HB2 EFI HF
                    go_wp2_with fail
                    go_roundg (n - (j + 1))
                    case measure => omega
                    case rel => exact ⟨j + 1, by omega, rfl, by go_num, RS3.out, RB3.out⟩
                  · have hfi : newF false x = ⟨x, lt, fac, false⟩ := by rw [EFI.out]; simp [q0, q1]
                    refine wp_region_quiet_last (by kernel_rfl) (by kernel_rfl) (by rfl) (by rfl) ?_
                    dsimp only [List.dropLast]
                    repeat (go_big_quiet_step (fail))
                    refine wpQuiet_nil ?_
                    intro _ hw'
                    obtain ⟨nq, hw''⟩ := hw'
                    subst hw''
                    intro K hK
                    go_simp
                    refine hK _ _ ?_
                    clear hK K
                    have hB2 := HB2.out
                    have hS3 := Q3.out false hfi _ (HS2.out.below (below_dN (Below.refl _ _) nq))
                    have hB3 : Below w.heap.size w ((wq.drewN nq).setCell ⟨b, j, none⟩ (.bool false)) := (by repeat' (first | (with_reducible exact Below.refl _ _) | (with_reducible assumption) | (with_reducible refine below_alloc ?_ _ ?_) | (with_reducible refine below_set _ ?_ ?_) | (with_reducible refine Below.drew ?_) | (with_reducible refine below_dN ?_ _) | (apply below_thenA; assumption) | omega | (simp; done) | (simp; omega) | (simp [*]; done)))
                    obtain ⟨wz, ez⟩ : ∃ W, (wq.drewN nq).setCell ⟨b, j, none⟩ (.bool false) = W := ⟨_, rfl⟩
                    rw [ez] at hS3 hB3
                    rw [ez]
                    have RS3 := Lib.hid hS3
                    have RB3 := Lib.hid hB3
                    clear hS3 hB3 hB2 ez c2 c3 c4 f4 h0 hfi Q3 HS2 HB2 EFI HF
                    go_wp2_with fail
                    go_roundg (n - (j + 1))
                    case measure => omega
                    case rel => exact ⟨j + 1, by omega, rfl, by go_num, RS3.out, RB3.out⟩
              · go_upto_region 16 with (fail)
                refine wp_world (fun wx => R19 wx s f b (M.set j { M.getD j fl0 with fa := fac }) ∧ Below w.heap.size w wx) ?_ ?_
                · refine ⟨?_, (by repeat' (first | (with_reducible exact Below.refl _ _) | (with_reducible assumption) | (with_reducible refine below_alloc ?_ _ ?_) | (with_reducible refine below_set _ ?_ ?_) | (with_reducible refine Below.drew ?_) | (with_reducible refine below_dN ?_ _) | (apply below_thenA; assumption) | omega | (simp; done) | (simp; omega) | (simp [*]; done)))⟩
                  have e := EFA.out
                  simp only [if_true] at e
                  rw [← e]
                  exact Q2.out
                rintro wq ⟨hS2, hB2⟩
                have HB2 := Lib.hid hB2
                have HS2 := Lib.hid hS2
                obtain ⟨c2, c3, c4, f4⟩ := HC2.out wq HS2.out
                obtain ⟨h0, h1, h2, h3, h4, h5, h6⟩ := HF.out wq HB2.out
                clear hS2 hB2 c1 f1 h1 h2 h3 h4 h5 h6 Q1 Q2 EFA HC2
                by_cases q0 : fac = 0
                · have hfi : newF true x = ⟨x, lt, fac, true⟩ := by rw [EFI.out, q0]; rfl
                  refine wp_region_quiet_last (by kernel_rfl) (by kernel_rfl) (by rfl) (by rfl) ?_
                  dsimp only [List.dropLast]
                  repeat (go_big_quiet_step (fail))
                  refine wpQuiet_nil ?_
                  intro _ hw'
                  obtain ⟨nq, hw''⟩ := hw'
                  subst hw''
                  intro K hK
                  go_simp
                  refine hK _ _ ?_
                  clear hK K
                  have hB2 := HB2.out
                  have hS3 := Q3.out true hfi _ (HS2.out.below (below_dN (Below.refl _ _) nq))
                  have hB3 : Below w.heap.size w ((wq.drewN nq).setCell ⟨b, j, none⟩ (.bool true)) := (by repeat' (first | (with_reducible exact Below.refl _ _) | (with_reducible assumption) | (with_reducible refine below_alloc ?_ _ ?_) | (with_reducible refine below_set _ ?_ ?_) | (with_reducible refine Below.drew ?_) | (with_reducible refine below_dN ?_ _) | (apply below_thenA; assumption) | omega | (simp; done) | (simp; omega) | (simp [*]; done)))
                  obtain ⟨wz, ez⟩ : ∃ W, (wq.drewN nq).setCell ⟨b, j, none⟩ (.bool true) = W := ⟨_, rfl⟩
                  rw [ez] at hS3 hB3
                  rw [ez]
                  have RS3 := Lib.hid hS3
                  have RB3 := Lib.hid hB3
                  clear hS3 hB3 hB2 ez c2 c3 c4 f4 h0 hfi Q3 HS2 HB2 EFI HF
                  go_wp2_with fail
                  go_roundg (n - (j + 1))
                  case measure => omega
                  case rel => exact ⟨j + 1, by omega, rfl, by go_num, RS3.out, RB3.out⟩
                · have q0b : (fac == 0) = false := by simp [q0]
                  by_cases q1 : lt < x.base
                  · have hfi : newF true x = ⟨x, lt, fac, true⟩ := by rw [EFI.out]; simp [q1]
                    refine wp_region_quiet_last (by kernel_rfl) (by kernel_rfl) (by rfl) (by rfl) ?_
                    dsimp only [List.dropLast]
                    repeat (go_big_quiet_step (fail))
                    refine wpQuiet_nil ?_
                    intro _ hw'
                    obtain ⟨nq, hw''⟩ := hw'
                    subst hw''
                    intro K hK
                    go_simp
                    refine hK _ _ ?_
                    clear hK K
                    have hB2 := HB2.out
                    have hS3 := Q3.out true hfi _ (HS2.out.below (below_dN (Below.refl _ _) nq))
                    have hB3 : Below w.heap.size w ((wq.drewN nq).setCell ⟨b, j, none⟩ (.bool true)) := (by repeat' (first | (with_reducible exact Below.refl _ _) | (with_reducible assumption) | (with_reducible refine below_alloc ?_ _ ?_) | (with_reducible refine below_set _ ?_ ?_) | (with_reducible refine Below.drew ?_) | (with_reducible refine below_dN ?_ _) | (apply below_thenA; assumption) | omega | (simp; done) | (simp; omega) | (simp [*]; done)))
                    obtain ⟨wz, ez⟩ : ∃ W, (wq.drewN nq).setCell ⟨b, j, none⟩ (.bool true) = W := ⟨_, rfl⟩
                    rw [ez] at hS3 hB3
                    rw [ez]
                    have RS3 := Lib.hid hS3
                    have RB3 := Lib.hid hB3
                    clear hS3 hB3 hB2 ez c2 c3 c4 f4 h0 hfi Q3 HS2 HB2 EFI HF
                    go_wp2_with fail
                    go_roundg (n - (j + 1))
                    case measure => omega
                    case rel => exact ⟨j + 1, by omega, rfl, by go_num, RS3.out, RB3.out⟩
                  · have hfi : newF true x = ⟨x, lt, fac, false⟩ := by rw [EFI.out]; simp [q0, q1]
                    refine wp_region_quiet_last (by kernel_rfl) (by kernel_rfl) (by rfl) (by rfl) ?_
                    dsimp only [List.dropLast]
                    repeat (go_big_quiet_step (fail))
                    refine wpQuiet_nil ?_
                    intro _ hw'
                    obtain ⟨nq, hw''⟩ := hw'
                    subst hw''
                    intro K hK
                    go_simp
                    refine hK _ _ ?_
                    clear hK K
                    have hB2 := HB2.out
                    have hS3 := Q3.out false hfi _ (HS2.out.below (below_dN (Below.refl _ _) nq))
                    have hB3 : Below w.heap.size w ((wq.drewN nq).setCell ⟨b, j, none⟩ (.bool false)) := (by repeat' (first | (with_reducible exact Below.refl _ _) | (with_reducible assumption) | (with_reducible refine below_alloc ?_ _ ?_) | (with_reducible refine below_set _ ?_ ?_) | (with_reducible refine Below.drew ?_) | (with_reducible refine below_dN ?_ _) | (apply below_thenA; assumption) | omega | (simp; done) | (simp; omega) | (simp [*]; done)))
                    obtain ⟨wz, ez⟩ : ∃ W, (wq.drewN nq).setCell ⟨b, j, none⟩ (.bool false) = W := ⟨_, rfl⟩
                    rw [ez] at hS3 hB3
                    rw [ez]
                    have RS3 := Lib.hid hS3
                    have RB3 := Lib.hid hB3
                    clear hS3 hB3 hB2 ez c2 c3 c4 f4 h0 hfi Q3 HS2 HB2 EFI HF
                    go_wp2_with fail
                    go_roundg (n - (j + 1))
                    case measure => omega
                    case rel => exact ⟨j + 1, by omega, rfl, by go_num, RS3.out, RB3.out⟩
          · obtain rfl : n = j := by omega
            have ix : ¬ (n : Int) < (n : Int) := by omega
            have hS1 := hS
            have e11 : (l.map (newF g)).length = (l.map s1F).length := by rw [List.length_map, List.length_map]
            have e12 := mix_all e11
            rw [List.length_map, HL.out] at e12
            rw [e12] at hS1
            have RS2 := Lib.hid hS1
            have hE := ext_bnd HC.out (by rw [HL.out]; exact hn)
            have hn0 : (l.map (newF g)).length ≤ 25 := by rw [List.length_map, HL.out]; exact hn
            have hl0 : (l.map (newF g)).length = n := by rw [List.length_map, HL.out]
            have hf0 := HD0.out
            have hlo := ELO.out
            have hef := EF.out
            rw [HL.out] at hlo
            have FREE : ∀ (st : List Fl) (W : World), BI st → st.length = n → st.map Fl.it = l → R19 W s f b st → Below w.heap.size w W → Calls Try.prog 78 #[.slice al n cl, .slice (some ⟨s, 0, none⟩) n n, .slice (some ⟨b, 0, none⟩) n n, .int .i64 avail] W fun e w' => e = .returned (.int .i64 (avail - sm Fx.extra l - sm Fl.now st)) ∧ w' = W := fun st W h1 h2 h3 h4 h5 => by
              have q := ref19_free al (some ⟨s, 0, none⟩) (some ⟨b, 0, none⟩) n cl n n st avail hn h2 (fun y hy => ⟨(h1 y hy).2.1.2.2.2.1, h1.now y hy⟩) ha W (by rw [h3]; exact HR.out.below h5) (by have := h4.sizes; rw [h2] at this; exact this) (by have := h4.bools; rw [h2] at this; exact this)
              rw [out_split, h3, ← Int.sub_sub] at q
              exact q
            obtain ⟨R, eR⟩ : ∃ R, avail - sm Fx.extra l = R := ⟨_, rfl⟩
            rw [eR] at FREE hf0 hlo hef
            have hro : -137438953472 ≤ R ∧ R ≤ 137438953472 := by omega
            have hfo := first_ok HB0.out hn0 hro hf0
            have F0 := FREE (l.map (newF g)) wr HB0.out hl0 (its0 g l) hS1 RB.out
            rw [← hef] at hfo F0
            have HRO := Lib.hid hro
            have HFI := Lib.hid hfo.1
            have HSG := Lib.hid hfo.2
            have HDIR0 := Lib.hid hf0
            have HLO0 := Lib.hid hlo
            have HLN0 := Lib.hid hl0
            have HCN0 := Lib.hid (show cntF (l.map (newF g)) ≤ n from by have := cnt_len (l.map (newF g)); rw [hl0] at this; exact this)
            clear hS hS1 hB e11 e12 hE hn0 hl0 hf0 hlo hef hro hfo RS RS1 eR EF ELO EG
            go_wp2_with (go_at_call 78; with_reducible refine F0.mono ?_; rintro e w2 ⟨rfl, rfl⟩)
            clear F0
            go_loopg [] n (fun gk wx => ∃ (d : Nat) (st : List Fl), gk = d ∧ loopF g R first d st = some m ∧ cntF st ≤ d ∧ st.length = n ∧ st.map Fl.it = l ∧ BI st ∧ Dir g R st ∧ (∀ x ∈ st, Last g x) ∧ R19 wx s f b st ∧ Below w.heap.size w wx)
            case atStart => exact ⟨n, l.map (newF g), rfl, HLO0.out, HCN0.out, HLN0.out, its0 g l, HB0.out, HDIR0.out, last0 g l, RS2.out, RB.out⟩
            case round =>
              obtain ⟨d, st, rfl, hlo, hcn, hsl, hsi, hbi, hdi, hla, hS, hB⟩ := hrel
              obtain ⟨wx, rfl⟩ : ∃ x, x = wr := ⟨_, rfl⟩
              have HLO := Lib.hid hlo
              have HCN := Lib.hid hcn
              have HSL := Lib.hid hsl
              have HSI := Lib.hid hsi
              have HBI := Lib.hid hbi
              have HDI := Lib.hid hdi
              have HLA := Lib.hid hla
              have RS := Lib.hid hS
              have RBX := Lib.hid hB
              clear hlo hcn hsl hsi hbi hdi hla hS hB RS2 HLO0 HCN0 HLN0 HB0 HDIR0 HD0 RB
              go_wp2_with fail
              go_loopg [14, 15, 16, 17] n (fun hk s14 s15 s16 s17 wy => ∃ (j : Nat) (aj : Option Addr) (cj : Nat), j ≤ n ∧ hk = n - j ∧ s14 = .slice aj j cj ∧ s15 = .int .i64 (facS (st.take j)) ∧ s16 = .int .i64 ((cntF (st.take j) : Int)) ∧ s17 = .int .i64 ((j : Int)) ∧ OwnI wy wx.heap.size aj j cj ((st.take j).map (wR g)) ∧ Below wx.heap.size wx wy)
              case atStart => exact ⟨0, none, 0, by omega, by omega, rfl, by simp [facS], by simp [cntF], rfl, OwnI.nil _ _, Below.refl _ _⟩
              case round =>
                obtain ⟨j, aj, cj, hj, rfl, rfl, rfl, rfl, rfl, ho, hB2⟩ := hrel
                obtain ⟨wy, rfl⟩ : ∃ x, x = wr := ⟨_, rfl⟩
                have hfb := facS_bnd (fun x hx => (HBI.out x hx).1.1) j (by rw [HSL.out]; exact hj)
                have hcl := cnt_take_le (st := st) (j := j)
                have hB3 := RBX.out.trans (hB2.mono RBX.out.size)
                have hsz := hB2.size
                have hsh := ho.shape
                have hS2 := RS.out.below hB2
                by_cases hjk : j < n
                ·
                  as_aux_lemma =>
                    have ix : (j : Int) < (n : Int) := by omega
                    have hjl : j < st.length := by rw [HSL.out]; exact hjk
                    obtain ⟨g1, o1, rfl, hg1, hF⟩ := fx_at HR.out HL.out hjk
                    have hit : l.getD j fx0 = (st.getD j fl0).it := by rw [← HSI.out]; exact getD_map Fl.it st fl0 fx0 hjl
                    have hbx := at_fit HBI.out (j := j) hjl
                    have c1 := hS2.fi hjl
                    have c2 := hS2.fa hjl
                    have hft := facS_take hjl
                    have hct := cnt_take hjl
                    have hwt := wR_take (g := g) hjl
                    rw [hit] at hF
                    obtain ⟨x, ex⟩ : ∃ x, st.getD j fl0 = x := ⟨_, rfl⟩
                    rw [ex] at hF hbx c1 c2 hft hct hwt
                    obtain ⟨hwf, hcx, -⟩ := hbx
                    have hwb := wR_bnd (g := false) hwf hcx
                    obtain ⟨F, eF⟩ : ∃ F, facS (st.take j) = F := ⟨_, rfl⟩
                    obtain ⟨c, ec⟩ : ∃ c, cntF (st.take j) = c := ⟨_, rfl⟩
                    obtain ⟨ys, ey⟩ : ∃ ys, (st.take j).map (wR g) = ys := ⟨_, rfl⟩
                    rw [eF] at hfb hft
                    rw [ec] at hcl hct
                    rw [ey] at ho hwt
                    rw [eF, ec]
                    have hF1 := hfb.1
                    have hF2 : F ≤ 102400000 := by omega
                    have hc2 : c ≤ 25 := by omega
                    have ha1 := hwf.1.2
                    obtain ⟨h0, -⟩ := FxAt.below hF hg1 hB3
                    have hb1 := hcx.1
                    have HO := Lib.hid ho
                    have HFT := Lib.hid hft
                    have HCT := Lib.hid hct
                    have HWT := Lib.hid hwt
                    have HB2 := Lib.hid hB2
                    clear hfb hcl hit hwf hcx hF hg1 hB3 ho hft hct hwt ex eF ec ey hS2 hB2 hjl hj
                    cases hx : x.fi
                    · rw [hx] at c1
                      have hfr : x.free = x.fa := by unfold Fl.free; rw [hx]; rfl
                      have hwr : wR false x = x.fa * x.it.base := by unfold wR; rw [hx]; rfl
                      rw [hwr] at hwb
                      rw [hfr] at HFT
                      rw [hx] at HCT
                      cases g
                      · have hw1 : wR false x = x.fa * x.it.base := hwr
                        go_upto_region 29 with (fail)
                        go_quiet (fail)
                        have ho2 := HO.out.below (below_dN (Below.refl _ _) nq)
                        have hBz := below_dN HB2.out nq
                        obtain ⟨wz, ez⟩ : ∃ W, wy.drewN nq = W := ⟨_, rfl⟩
                        rw [ez] at ho2 hBz
                        rw [ez]
                        clear ez
                        have hzz := hBz.size
                        go_wp2_with (at_builtin; refine wpList_append_own _ rfl _ _ 31 rfl wx.heap.size 2 i0 (.int .i64 0) 1 8 Try.underlying31 hi hz0 hz1 hz2 rfl (by decide) _ _ _ rfl (ho2.1.alloc _) ⟨wz.heap.size, 0, none⟩ 1 1 [.int .i64 (x.fa * x.it.base)] rfl rfl (fun j u hj => by match j, hj with | 0, hj => (simp at hj; subst hj; simp [Addr.add])) (fun u hu => by simp at hu; subst hu; rfl) (by unfold maxLen; omega) (by omega) (by simp; omega) ?_)
                        intro v' w3 hown' hgrow _
                        obtain ⟨ao', cap', rfl, ho', _, hB'⟩ := ho2.grown hown' hgrow hBz.size
                        have hB4 := hB' _ _ (Nat.le_refl _) hBz
                        have HO4 := Lib.hid ho'
                        have HB4 := Lib.hid hB4
                        clear hown' hgrow hB' ho2 hBz ho' hB4
                        go_wp2_with fail
                        go_roundg (n - (j + 1))
                        case measure => omega
                        case rel => exact ⟨j + 1, ao', cap', by omega, rfl, rfl, by rw [HFT.out], by rw [HCT.out]; simp [hx], by go_num, by rw [HWT.out, hw1]; exact HO4.out, HB4.out⟩
                      · have hw1 : wR true x = x.fa := by unfold wR; rw [hx]; rfl
                        have ho2 := HO.out
                        have hBz := HB2.out
                        have hzz := hBz.size
                        go_wp2_with (at_builtin; refine wpList_append_own _ rfl _ _ 31 rfl wx.heap.size 2 i0 (.int .i64 0) 1 8 Try.underlying31 hi hz0 hz1 hz2 rfl (by decide) _ _ _ rfl (ho2.1.alloc _) ⟨wy.heap.size, 0, none⟩ 1 1 [.int .i64 x.fa] rfl rfl (fun j u hj => by match j, hj with | 0, hj => (simp at hj; subst hj; simp [Addr.add])) (fun u hu => by simp at hu; subst hu; rfl) (by unfold maxLen; omega) (by omega) (by simp; omega) ?_)
                        intro v' w3 hown' hgrow _
                        obtain ⟨ao', cap', rfl, ho', _, hB'⟩ := ho2.grown hown' hgrow hBz.size
                        have hB4 := hB' _ _ (Nat.le_refl _) hBz
                        have HO4 := Lib.hid ho'
                        have HB4 := Lib.hid hB4
                        clear hown' hgrow hB' ho2 hBz ho' hB4
                        go_wp2_with fail
                        go_roundg (n - (j + 1))
                        case measure => omega
                        case rel => exact ⟨j + 1, ao', cap', by omega, rfl, rfl, by rw [HFT.out], by rw [HCT.out]; simp [hx], by go_num, by rw [HWT.out, hw1]; exact HO4.out, HB4.out⟩
                    · rw [hx] at c1
                      have hfr : x.free = 0 := by unfold Fl.free; rw [hx]; rfl
                      have hw1 : wR g x = 0 := by unfold wR; rw [hx]; rfl
                      rw [hfr, Int.add_zero] at HFT
                      rw [hx] at HCT
                      have ho2 := HO.out
                      have hBz := HB2.out
                      have hzz := hBz.size
                      go_wp2_with (at_builtin; refine wpList_append_own _ rfl _ _ 31 rfl wx.heap.size 2 i0 (.int .i64 0) 1 8 Try.underlying31 hi hz0 hz1 hz2 rfl (by decide) _ _ _ rfl (ho2.1.alloc _) ⟨wy.heap.size, 0, none⟩ 1 1 [.int .i64 0] rfl rfl (fun j u hj => by match j, hj with | 0, hj => (simp at hj; subst hj; simp [Addr.add])) (fun u hu => by simp at hu; subst hu; rfl) (by unfold maxLen; omega) (by omega) (by simp; omega) ?_)
                      intro v' w3 hown' hgrow _
                      obtain ⟨ao', cap', rfl, ho', _, hB'⟩ := ho2.grown hown' hgrow hBz.size
                      have hB4 := hB' _ _ (Nat.le_refl _) hBz
                      have HO4 := Lib.hid ho'
                      have HB4 := Lib.hid hB4
                      clear hown' hgrow hB' ho2 hBz ho' hB4
                      go_wp2_with fail
                      go_roundg (n - (j + 1))
                      case measure => omega
                      case rel => exact ⟨j + 1, ao', cap', by omega, rfl, rfl, by rw [HFT.out], by rw [HCT.out]; simp [hx], by go_num, by rw [HWT.out, hw1]; exact HO4.out, HB4.out⟩
                · obtain rfl : n = j := by omega
                  have ix : ¬ (n : Int) < (n : Int) := by omega
                  have hst : st.take n = st := List.take_of_length_le (by rw [HSL.out]; omega)
                  rw [hst] at hfb hcl ho
                  rw [hst]
                  obtain ⟨F, eF⟩ : ∃ F, facS st = F := ⟨_, rfl⟩
                  obtain ⟨c, ec⟩ : ∃ c, cntF st = c := ⟨_, rfl⟩
                  rw [eF] at hfb
                  rw [ec] at hcl
                  rw [eF, ec]
                  have hF1 := hfb.1
                  have hF2 : F ≤ 102400000 := by omega
                  have hc2 : c ≤ 25 := by omega
                  have EF := Lib.hid eF
                  have HO := Lib.hid ho
                  have RS3 := Lib.hid hS2
                  have RB3 := Lib.hid hB3
                  cases hdn : doneF st
                  · have hc0 := (done_cnt (m := st)).1 hdn
                    rw [ec] at hc0
                    have ic : ¬ (c : Int) = 0 := by omega
                    have icb : ((c : Int) == 0) = false := by simp; omega
                    obtain ⟨d', st', rfl, hst', hlo', hcn', hsl', hsi', hbi', hdi', hla'⟩ := round_next HRO.out HFI.out HSG.out HLO.out HCN.out (by rw [HSL.out]; exact hn) HBI.out HDI.out HLA.out hdn
                    obtain ⟨t, k, htg, hsk, hkl, hkb, hTb, hpb, -, hob⟩ := round_shape HBI.out (by rw [HSL.out]; exact hn) HRO.out HFI.out HDI.out
                    obtain rfl : st' = k.map (stpF t) := by rw [hst'] at hsk; exact Option.some.inj hsk
                    have hsp := wR_split (g := g) HBI.out HSL.out hn
                    have hps := partsN_len (shR first (facS st) (R - sm Fl.now st)) (pre (st.map (wR g)) st.length) (st.map (wR g)) st.length
                    have F1 := FREE st wy HBI.out HSL.out HSI.out hS2 hB3
                    rw [eF] at htg hTb hpb hps
                    rw [HSL.out] at htg hpb hps hkl hsl'
                    obtain ⟨O, eO⟩ : ∃ O, R - sm Fl.now st = O := ⟨_, rfl⟩
                    rw [eO] at htg hTb hpb hob F1 hps
                    obtain ⟨ws, ews⟩ : ∃ ws, st.map (wR g) = ws := ⟨_, rfl⟩
                    rw [ews] at htg hpb hsp ho hps
                    have hfi1 := HFI.out.1
                    have hfi2 := HFI.out.2
                    have HTG := Lib.hid htg
                    have HKL := Lib.hid hkl
                    have HKB := Lib.hid hkb
                    have HPB := Lib.hid hpb
                    have HPS := Lib.hid hps
                    have HSP := Lib.hid hsp
                    have HWS := Lib.hid ho
                    have HTB := Lib.hid hTb
                    have HLO2 := Lib.hid hlo'
                    have HCN2 := Lib.hid hcn'
                    have HSL2 := Lib.hid hsl'
                    have HSI2 := Lib.hid (hsi'.trans HSI.out)
                    have HBI2 := Lib.hid hbi'
                    have HDI2 := Lib.hid hdi'
                    have HLA2 := Lib.hid hla'
                    clear hst' hlo' hcn' hsl' hsi' hbi' hdi' hla' htg hsk hkl hkb hTb hpb hsp hps ho HO hc0 hS2 hst hfb hcl eF ec eO ews HLO HCN hB2 hB3 hdn
                    have DN := ref19_down (wrap64 (first * F)) (wrap_fit _)
                    have hw64 := wrap_fit (first * F)
                    obtain ⟨P, eP⟩ : ∃ P, wrap64 (first * F) / 4096 = P := ⟨_, rfl⟩
                    rw [eP] at DN
                    have hPb : -2251799813685248 ≤ P ∧ P ≤ 2251799813685247 := by unfold IFit at hw64; omega
                    have hT := shR_is (O := O) HFI.out hF1 eP
                    obtain ⟨T, eT⟩ : ∃ T, shR first F O = T := ⟨_, rfl⟩
                    rw [eT] at hT HTG HTB HPB HPS
                    have S1 := ref19_size P (by omega) (by omega)
                    have S2 := ref19_size O (by omega) (by omega)
                    obtain ⟨s1, es1⟩ : ∃ v, absI P = v := ⟨_, rfl⟩
                    obtain ⟨s2, es2⟩ : ∃ v, absI O = v := ⟨_, rfl⟩
                    rw [es1] at S1 hT
                    rw [es2] at S2 hT
                    obtain ⟨b0, eb0⟩ : ∃ v, (decide (F < 4096) && decide (s1 < s2)) = v := ⟨_, rfl⟩
                    rw [eb0] at hT
                    have HT := Lib.hid hT
                    have EB0 := Lib.hid eb0
                    clear eP hPb hw64 hT eT es1 es2 eb0
                    go_upto_region 35 with (first
                      | (go_at_call 78; with_reducible refine F1.mono ?_; rintro e w3 ⟨rfl, rfl⟩)
                      | (go_at_call 79; with_reducible refine (DN _).mono ?_; rintro e w4 ⟨rfl, rfl⟩))
                    clear F1 DN
                    go_cut [192] from 184 to 192 (fun v wx => v = .bool b0 ∧ wx = w4)
                    case first =>
                      by_cases hF4 : F < 4096
                      · by_cases hs : s1 < s2
                        · have hb : b0 = true := by rw [← EB0.out, decide_eq_true hF4, decide_eq_true hs]; rfl
                          go_wp2_with (first
                            | (go_at_call 80; with_reducible refine (S1 _).mono ?_; rintro e w5 ⟨rfl, rfl⟩)
                            | (go_at_call 80; with_reducible refine (S2 _).mono ?_; rintro e w5 ⟨rfl, rfl⟩))
                          go_meet
                          case rel => exact ⟨by simp [hb, hs], rfl⟩
                        · have hb : b0 = false := by rw [← EB0.out, decide_eq_true hF4, decide_eq_false hs]; rfl
                          go_wp2_with (first
                            | (go_at_call 80; with_reducible refine (S1 _).mono ?_; rintro e w5 ⟨rfl, rfl⟩)
                            | (go_at_call 80; with_reducible refine (S2 _).mono ?_; rintro e w5 ⟨rfl, rfl⟩))
                          go_meet
                          case rel => exact ⟨by simp [hb, hs], rfl⟩
                      · have hb : b0 = false := by rw [← EB0.out, decide_eq_false hF4]; rfl
                        go_wp2_with fail
                        go_meet
                        case rel => exact ⟨by rw [hb], rfl⟩
                    case rest =>
                      obtain ⟨rfl, rfl⟩ := hcut
                      clear S1 S2
                      go_upto_if 192 with (fail)
                      go_cut [19] from 193 to 193 (fun v wx => v = .int .i64 T ∧ wx = wc)
                      case first =>
                        cases b0
                        · go_wp2_with fail
                          go_meet
                          case rel => exact ⟨by have h : O = T := by simpa using HT.out
                                                rw [h], rfl⟩
                        · go_wp2_with fail
                          go_meet
                          case rel => exact ⟨by have h : P = T := by simpa using HT.out
                                                rw [h], rfl⟩
                      case rest =>
                        obtain ⟨rfl, hwc⟩ := hcut
                        obtain ⟨wd, rfl⟩ : ∃ x, x = wc := ⟨_, rfl⟩
                        subst hwc
                        clear EB0 HT
                        have SP := ref5_split_own T aj n cj ws (by omega) (by have := HTB.out; unfold IFit; omega) HSP.out.2.1 wd HWS.out.row
                        unfold SplitOwn at SP
                        rw [spl_zero (by omega) HSP.out.1 HTB.out HSP.out.2.2] at SP
                        go_wp2_with (go_at_call 59; with_reducible refine SP.mono ?_; rintro e w5 ⟨ap, mp, cp, ps, rfl, hop, h1, -, hb5⟩)
                        obtain ⟨rfl, e2⟩ := h1 trivial
                        rw [← e2] at HTG HPS HPB
                        have hsd := hb5.size
                        have hls := RS3.out.lts
                        have hS5 := RS3.out.below hb5
                        have hB5 := RB3.out.trans (hb5.mono RB3.out.size)
                        have HOP := Lib.hid hop
                        have RS5 := Lib.hid hS5
                        have RB5 := Lib.hid hB5
                        clear h1 e2 hop hS5 hB5 hb5 RS3 RB3 HWS SP HSP HTB hob hF1 hF2 EF ic icb hc2
                        go_loopg [23, 24] mp (fun hk s23 s24 wy => ∃ (j : Nat) (q : Int), j ≤ mp ∧ hk = mp - j ∧ s23 = .int .i64 q ∧ s24 = .int .i64 ((j : Int)) ∧ LenB q ∧ tgsF (st.drop j) (ps.drop j) q = some (t, k.drop j) ∧ OwnI wy wd.heap.size ap mp cp ps ∧ R19 wy s f b (mix k st j) ∧ Below w.heap.size w wy)
                        case atStart => exact ⟨0, 0, by omega, by omega, rfl, rfl, by unfold LenB; omega, HTG.out, HOP.out, by rw [mix_zero]; exact RS5.out, RB5.out⟩
                        case round =>
                          obtain ⟨j, q, hj, rfl, rfl, rfl, hq, htq, ho, hS, hB⟩ := hrel
                          obtain ⟨wy, rfl⟩ : ∃ x, x = wr := ⟨_, rfl⟩
                          have hks : k.length = st.length := by rw [HKL.out, HSL.out]
                          by_cases hjk : j < mp
                          ·
                            as_aux_lemma =>
                              have ix : (j : Int) < (mp : Int) := by omega
                              have hjl : j < st.length := by rw [HSL.out]; exact hjk
                              obtain ⟨g1, o1, rfl, hg1, hF⟩ := fx_at HR.out HL.out hjk
                              have hit : l.getD j fx0 = (st.getD j fl0).it := by rw [← HSI.out]; exact getD_map Fl.it st fl0 fx0 hjl
                              rw [hit] at hF
                              have hbx := at_fit HBI.out (j := j) hjl
                              have htx := tgs_at hjl hks htq
                              have hgd := mix_get hks fl0 hjl
                              have hjm : j < (mix k st j).length := by rw [mix_len hks]; exact hjl
                              have hst := mix_set hks fl0 hjl
                              have hsame := mix_same hks fl0 hjl
                              have c1 := hS.fi hjm
                              have c0 := hS.tg hjm
                              rw [hgd] at c1 c0
                              obtain ⟨g2, o2, rfl, hg2, c2⟩ := ho.row.at hjk
                              have hpb : -274877906944 ≤ ps.getD j 0 ∧ ps.getD j 0 ≤ 274877906944 := HPB.out _ (by
                                have : j < ps.length := by rw [HPS.out]; exact hjk
                                simp [List.getD, this])
                              obtain ⟨x, ex⟩ : ∃ x, st.getD j fl0 = x := ⟨_, rfl⟩
                              obtain ⟨p, ep⟩ : ∃ p, ps.getD j 0 = p := ⟨_, rfl⟩
                              rw [ex] at hF hbx htx c1 c0 hsame hgd
                              rw [ep] at c2 hpb htx
                              obtain ⟨hwf, hcx, -⟩ := hbx
                              have hb1 := hcx.1
                              have HO := Lib.hid ho
                              have RSY := Lib.hid hS
                              have RBY := Lib.hid hB
                              cases hx : x.fi
                              · obtain ⟨-, h2⟩ := htx
                                obtain ⟨l1, l2, l3, hkx, htn⟩ := h2 hx
                                rw [hkx] at hst
                                rw [hx] at c1
                                have hset : ∀ W, R19 W s f b (mix k st j) → R19 (W.setCell ⟨s, j, none⟩ (.int .i64 (x.it.base + p))) s f b (mix k st (j + 1)) := fun W h => by
                                  have q := h.setTg fl0 (x.it.base + p) hjm
                                  rw [hgd, hst] at q
                                  exact q
                                have hsa : ∀ W, OwnI W wd.heap.size (some ⟨g2, o2, none⟩) mp cp ps → OwnI (W.setCell ⟨s, j, none⟩ (.int .i64 (x.it.base + p))) wd.heap.size (some ⟨g2, o2, none⟩) mp cp ps := fun W h => h.set ⟨s, j, none⟩ (.int .i64 (x.it.base + p)) (fun e => by have := (h.ge e).1; simp only at this; omega)
                                have f1 := hS.1.free j
                                obtain ⟨h0, -⟩ := FxAt.below hF hg1 hB
                                have HF := Lib.hid (show ∀ W, Below w.heap.size w W → FxAt W g1 (o1 + j * 7) x.it from fun W hW => FxAt.below hF hg1 hW)
                                have hjm2 : j < (mix k st (j + 1)).length := by rw [mix_len hks]; exact hjl
                                have ec0 : ((mix k st (j + 1)).getD j fl0).tg = x.it.base + p := by rw [← hst]; simp [List.getD, hjm]
                                obtain ⟨tg, etg⟩ : ∃ v, x.it.base + p = v := ⟨_, rfl⟩
                                have WI := fun W => ref19_within x.it tg W
                                rw [etg] at hset hsa l1 l2 l3 htn ec0
                                obtain ⟨lt, elt⟩ : ∃ v, x.it.lim tg = v := ⟨_, rfl⟩
                                rw [elt] at WI l2 l3 htn
                                unfold LenB at l1 l2 l3 hq
                                have HTN := Lib.hid htn
                                have HL3 := Lib.hid (show LenB (q + (lt - tg)) from l3)
                                have HSET := Lib.hid hset
                                have HSA := Lib.hid hsa
                                have EC0 := Lib.hid ec0
                                have HJM := Lib.hid hjm2
                                clear hset hsa htn hst hsame hS ho hB hF hwf hcx h2 htq hkx hgd hjm hjl hks ec0 hjm2 elt hit ex hls
                                unfold Fx.val at WI
                                go_upto_region 43 with (fail)
                                refine wp_region_quiet_last (by kernel_rfl) (by kernel_rfl) (by rfl) (by rfl) ?_
                                dsimp only [List.dropLast]
                                repeat (go_big_quiet_step (fail))
                                refine wpQuiet_nil ?_
                                intro _ hw'
                                obtain ⟨nq, hw''⟩ := hw'
                                subst hw''
                                intro K hK
                                go_simp
                                refine hK _ _ ?_
                                clear hK K
                                have hBy := RBY.out
                                have hS6 := HSET.out _ (RSY.out.below (below_dN (Below.refl _ _) nq))
                                have ho6 := HSA.out _ (HO.out.below (below_dN (Below.refl _ _) nq))
                                have hB6 : Below w.heap.size w ((wy.drewN nq).setCell ⟨s, j, none⟩ (.int .i64 tg)) := (by repeat' (first | (with_reducible exact Below.refl _ _) | (with_reducible assumption) | (with_reducible refine below_alloc ?_ _ ?_) | (with_reducible refine below_set _ ?_ ?_) | (with_reducible refine Below.drew ?_) | (with_reducible refine below_dN ?_ _) | (apply below_thenA; assumption) | omega | (simp; done) | (simp; omega) | (simp [*]; done)))
                                obtain ⟨w6, e6⟩ : ∃ W, (wy.drewN nq).setCell ⟨s, j, none⟩ (.int .i64 tg) = W := ⟨_, rfl⟩
                                rw [e6] at hS6 ho6 hB6
                                rw [e6]
                                have wr1 : IntKind.i64.wrap (lt - tg) = lt - tg := by rw [IntWalk.i64_left]; exact IntWalk.wrap64_in _ (by omega)
                                have wr2 : IntKind.i64.wrap (q + (lt - tg)) = q + (lt - tg) := by rw [IntWalk.i64_left]; exact IntWalk.wrap64_in _ (by omega)
                                have CT := Lib.hid (show ∀ W, Below w6.heap.size w6 W → W.cell? ⟨s, j, none⟩ = some (.int .i64 tg) from fun W hW => by
                                  have q := (hS6.below hW).tg HJM.out
                                  rw [EC0.out] at q
                                  exact q)
                                have RS6 := Lib.hid hS6
                                have HO6 := Lib.hid ho6
                                have RB6 := Lib.hid hB6
                                clear hBy hS6 ho6 hB6 e6 HSET HSA RSY RBY HO c0 c1 c2 f1 h0 etg ep
                                go_upto_region 44 with (fail)
                                rename_i K1 hK1
                                refine wp_region_calm (fun w' => Below w6.heap.size w6 w') [] (fun w' => True) [Is (.int .i64 q), Is (.slice (some ⟨g1, o1, none⟩) mp cl), Is (.int .i64 ((j : Int))), Is (.pointer (some ⟨g1, o1 + j * 7, none⟩)), Is x.it.val, Is (.slice (some ⟨s, 0, none⟩) mp mp), Is (.int .i64 ((j : Int))), Is (.pointer (some ⟨s, j, none⟩)), Is (.int .i64 tg), Is (.int .i64 lt), Is (.slice (some ⟨s, 0, none⟩) mp mp), Is (.int .i64 ((j : Int))), Is (.pointer (some ⟨s, j, none⟩)), Is (.int .i64 tg), Is (.int .i64 (lt - tg)), Is (.int .i64 (q + (lt - tg))), Is (.int .i64 (q + (lt - tg)))] [] (by kernel_rfl) (by kernel_rfl) (by kernel_rfl) (by kernel_rfl) (Below.refl _ _).drew trivial ?_ ?_ ?_ ?_ ?_
                                · rintro W W' hBB hb
                                  exact hBB.trans (hb.mono hBB.size)
                                · exact fun _ _ _ _ _ => trivial
                                · intro k vs W hk h
                                  exact absurd hk (by simp)
                                · intro Q; clear hK1 
                                  refine ⟨?_, ?_, ?_, ?_, ?_, ?_, ?_, ?_, ?_, ?_, ?_, ?_, ?_, ?_, ?_, ?_, ?_, trivial⟩
                                  · intro vs W hW hW0 hd hne hold K hK hA hL; clear hne hA hL; have hBB := hW; simp only [puts, Act.put, List.setIfInBounds_toArray, List.set_cons_zero, List.set_cons_succ, Nat.zero_add, Nat.reduceAdd] at hK ⊢; have e16 : vs 16 = _ := hold 16 (by kernel_rfl); clear hd hold; simp only [e16] at hK; go_simp; exact hK.out rfl _ _ (Below.refl _ _) rfl
                                  · intro vs W hW hW0 hd hne hold K hK hA hL; clear hne hA hL; have hBB := hW; simp only [puts, Act.put, List.setIfInBounds_toArray, List.set_cons_zero, List.set_cons_succ, Nat.zero_add, Nat.reduceAdd] at hK ⊢; clear hd hold; go_simp; exact hK.out rfl _ _ (Below.refl _ _) rfl
                                  · intro vs W hW hW0 hd hne hold K hK hA hL; clear hne hA hL; have hBB := hW; simp only [puts, Act.put, List.setIfInBounds_toArray, List.set_cons_zero, List.set_cons_succ, Nat.zero_add, Nat.reduceAdd] at hK ⊢; clear hd hold; go_simp; exact hK.out rfl _ _ (Below.refl _ _) rfl
                                  · intro vs W hW hW0 hd hne hold K hK hA hL; clear hne hA hL; have hBB := hW; simp only [puts, Act.put, List.setIfInBounds_toArray, List.set_cons_zero, List.set_cons_succ, Nat.zero_add, Nat.reduceAdd] at hK ⊢; have e1 : vs 1 = _ := hd 1 (by kernel_rfl); have e2 : vs 2 = _ := hd 2 (by kernel_rfl); clear hd hold; simp only [e1, e2] at hK; go_simp; exact hK.out rfl _ _ (Below.refl _ _) rfl
                                  · intro vs W hW hW0 hd hne hold K hK hA hL; clear hne hA hL; have hBB := hW; simp only [puts, Act.put, List.setIfInBounds_toArray, List.set_cons_zero, List.set_cons_succ, Nat.zero_add, Nat.reduceAdd] at hK ⊢; obtain ⟨h0, h1, h2, h3, h4, h5, h6⟩ := HF.out W (RB6.out.trans (hBB.mono RB6.out.size)); have eb : vs 3 = _ := hd 3 (by kernel_rfl); clear hd hold; simp only [eb, Fx.val] at hK ⊢; go_simp; exact hK.out rfl _ _ (Below.refl _ _) rfl
                                  · intro vs W hW hW0 hd hne hold K hK hA hL; clear hne hA hL; have hBB := hW; simp only [puts, Act.put, List.setIfInBounds_toArray, List.set_cons_zero, List.set_cons_succ, Nat.zero_add, Nat.reduceAdd] at hK ⊢; clear hd hold; go_simp; exact hK.out rfl _ _ (Below.refl _ _) rfl
                                  · intro vs W hW hW0 hd hne hold K hK hA hL; clear hne hA hL; have hBB := hW; simp only [puts, Act.put, List.setIfInBounds_toArray, List.set_cons_zero, List.set_cons_succ, Nat.zero_add, Nat.reduceAdd] at hK ⊢; clear hd hold; go_simp; exact hK.out rfl _ _ (Below.refl _ _) rfl
                                  · intro vs W hW hW0 hd hne hold K hK hA hL; clear hne hA hL; have hBB := hW; simp only [puts, Act.put, List.setIfInBounds_toArray, List.set_cons_zero, List.set_cons_succ, Nat.zero_add, Nat.reduceAdd] at hK ⊢; have e5 : vs 5 = _ := hd 5 (by kernel_rfl); have e6 : vs 6 = _ := hd 6 (by kernel_rfl); clear hd hold; simp only [e5, e6] at hK; go_simp; exact hK.out rfl _ _ (Below.refl _ _) rfl
                                  · intro vs W hW hW0 hd hne hold K hK hA hL; clear hne hA hL; have hBB := hW; simp only [puts, Act.put, List.setIfInBounds_toArray, List.set_cons_zero, List.set_cons_succ, Nat.zero_add, Nat.reduceAdd] at hK ⊢; have h0 := CT.out W hBB; have eb : vs 7 = _ := hd 7 (by kernel_rfl); clear hd hold; simp only [eb] at hK; go_simp; exact hK.out rfl _ _ (Below.refl _ _) rfl
                                  · intro vs W hW hW0 hd hne hold K hK hA hL; clear hne hA hL; have hBB := hW; simp only [puts, Act.put, List.setIfInBounds_toArray, List.set_cons_zero, List.set_cons_succ, Nat.zero_add, Nat.reduceAdd] at hK ⊢; have eb : vs 4 = _ := hd 4 (by kernel_rfl); have ed : vs 8 = _ := hd 8 (by kernel_rfl); clear hd hold; simp only [eb, ed] at hK; go_simp; refine (WI W).mono ?_; (rintro e wx ⟨rfl, hbx⟩); go_simp; exact hK.out rfl _ _ hbx rfl
                                  · intro vs W hW hW0 hd hne hold K hK hA hL; clear hne hA hL; have hBB := hW; simp only [puts, Act.put, List.setIfInBounds_toArray, List.set_cons_zero, List.set_cons_succ, Nat.zero_add, Nat.reduceAdd] at hK ⊢; clear hd hold; go_simp; exact hK.out rfl _ _ (Below.refl _ _) rfl
                                  · intro vs W hW hW0 hd hne hold K hK hA hL; clear hne hA hL; have hBB := hW; simp only [puts, Act.put, List.setIfInBounds_toArray, List.set_cons_zero, List.set_cons_succ, Nat.zero_add, Nat.reduceAdd] at hK ⊢; clear hd hold; go_simp; exact hK.out rfl _ _ (Below.refl _ _) rfl
                                  · intro vs W hW hW0 hd hne hold K hK hA hL; clear hne hA hL; have hBB := hW; simp only [puts, Act.put, List.setIfInBounds_toArray, List.set_cons_zero, List.set_cons_succ, Nat.zero_add, Nat.reduceAdd] at hK ⊢; have e10 : vs 10 = _ := hd 10 (by kernel_rfl); have e11 : vs 11 = _ := hd 11 (by kernel_rfl); clear hd hold; simp only [e10, e11] at hK; go_simp; exact hK.out rfl _ _ (Below.refl _ _) rfl
                                  · intro vs W hW hW0 hd hne hold K hK hA hL; clear hne hA hL; have hBB := hW; simp only [puts, Act.put, List.setIfInBounds_toArray, List.set_cons_zero, List.set_cons_succ, Nat.zero_add, Nat.reduceAdd] at hK ⊢; have h0 := CT.out W hBB; have eb : vs 12 = _ := hd 12 (by kernel_rfl); clear hd hold; simp only [eb] at hK; go_simp; exact hK.out rfl _ _ (Below.refl _ _) rfl
                                  · intro vs W hW hW0 hd hne hold K hK hA hL; clear hne hA hL; have hBB := hW; simp only [puts, Act.put, List.setIfInBounds_toArray, List.set_cons_zero, List.set_cons_succ, Nat.zero_add, Nat.reduceAdd] at hK ⊢; have e9 : vs 9 = _ := hd 9 (by kernel_rfl); have e13 : vs 13 = _ := hd 13 (by kernel_rfl); clear hd hold; simp only [e9, e13] at hK; go_simp; exact hK.out rfl _ _ (Below.refl _ _) rfl
                                  · intro vs W hW hW0 hd hne hold K hK hA hL; clear hne hA hL; have hBB := hW; simp only [puts, Act.put, List.setIfInBounds_toArray, List.set_cons_zero, List.set_cons_succ, Nat.zero_add, Nat.reduceAdd] at hK ⊢; have e0 : vs 0 = _ := hd 0 (by kernel_rfl); have e14 : vs 14 = _ := hd 14 (by kernel_rfl); clear hd hold; simp only [e0, e14] at hK; go_simp; exact hK.out rfl _ _ (Below.refl _ _) rfl
                                  · intro vs W hW hW0 hd hne hold K hK hA hL; clear hne hA hL; have hBB := hW; simp only [puts, Act.put, List.setIfInBounds_toArray, List.set_cons_zero, List.set_cons_succ, Nat.zero_add, Nat.reduceAdd] at hK ⊢; have e15 : vs 15 = _ := hd 15 (by kernel_rfl); clear hd hold; simp only [e15] at hK; go_simp; exact hK.out rfl _ _ (Below.refl _ _) rfl
                                · intro vb WC hW1 hV1 _
                                  have h16 : vb 16 = .int .i64 (q + (lt - tg)) := hV1 16 (by decide)
                                  simp only [puts, Act.put, List.setIfInBounds_toArray, List.set_cons_zero, List.set_cons_succ, Nat.zero_add, Nat.reduceAdd, h16]
                                  clear h16 hV1
                                  refine hK1 _ _ ?_
                                  clear hK1
                                  have RS7 := Lib.hid (RS6.out.below hW1)
                                  have HO7 := Lib.hid (HO6.out.below hW1)
                                  have RB7 := Lib.hid (RB6.out.trans (hW1.mono RB6.out.size))
                                  clear hW1 RS6 HO6 RB6 CT WI wr1 wr2
                                  go_wp2_with fail
                                  go_roundg (mp - (j + 1))
                                  case measure => omega
                                  case rel => exact ⟨j + 1, _, by omega, rfl, rfl, by go_num, HL3.out, HTN.out, HO7.out, RS7.out, RB7.out⟩
                              · obtain ⟨h2, -⟩ := htx
                                obtain ⟨hkx, htn⟩ := h2 hx
                                rw [hx] at c1
                                have hsm := hsame hkx
                                rw [hsm] at hS
                                have HTN := Lib.hid htn
                                have RS7 := Lib.hid hS
                                have HQ := Lib.hid hq
                                clear htn hS hsm hkx h2 htq hsame hst hgd hwf hcx hF hit ex ep hq RSY ho hB
                                go_wp2_with fail
                                go_roundg (mp - (j + 1))
                                case measure => omega
                                case rel => exact ⟨j + 1, _, by omega, rfl, rfl, by go_num, HQ.out, HTN.out, HO.out, RS7.out, RBY.out⟩
                          · obtain rfl : mp = j := by omega
                            have ix : ¬ (mp : Int) < (mp : Int) := by omega
                            have e11 := mix_all hks
                            rw [HKL.out] at e11
                            rw [e11] at hS
                            rw [List.drop_eq_nil_of_le (show st.length ≤ mp by rw [HSL.out]; omega), List.drop_eq_nil_of_le (show k.length ≤ mp by rw [HKL.out]; omega), List.drop_eq_nil_of_le (show ps.length ≤ mp by rw [HPS.out]; omega), tgsF] at htq
                            obtain rfl : q = t := by simpa using htq
                            have RSK := Lib.hid hS
                            have RBK := Lib.hid hB
                            clear htq e11 hks hS hB ho hq hls HOP RS5 RB5 HPS HPB HTG
                            go_wp2_with fail
                            go_loopg [25] mp (fun hk s25 wy => ∃ (j : Nat), j ≤ mp ∧ hk = mp - j ∧ s25 = .int .i64 ((j : Int)) ∧ R19 wy s f b (mix (k.map (stpF q)) k j) ∧ Below w.heap.size w wy)
                            case atStart => exact ⟨0, by omega, by omega, rfl, by rw [mix_zero]; exact RSK.out, RBK.out⟩
                            case round =>
                              obtain ⟨j, hj, rfl, rfl, hS, hB⟩ := hrel
                              obtain ⟨wz, rfl⟩ : ∃ x, x = wr := ⟨_, rfl⟩
                              have hks : (k.map (stpF q)).length = k.length := by rw [List.length_map]
                              by_cases hjk : j < mp
                              ·
                                as_aux_lemma =>
                                  have ix : (j : Int) < (mp : Int) := by omega
                                  have hjl : j < k.length := by rw [HKL.out]; exact hjk
                                  obtain ⟨g1, o1, rfl, hg1, hF⟩ := fx_at HR.out HL.out hjk
                                  have hit : l.getD j fx0 = (k.getD j fl0).it := by
                                    rw [← HSI2.out, getD_map Fl.it (k.map (stpF q)) fl0 fx0 (by rw [List.length_map]; exact hjl), getD_map (stpF q) k fl0 fl0 hjl, stp_it]
                                  rw [hit] at hF
                                  have hbx := at_fit HKB.out (j := j) hjl
                                  have hgd := mix_get hks fl0 hjl
                                  have hjm : j < (mix (k.map (stpF q)) k j).length := by rw [mix_len hks]; exact hjl
                                  have hst := mix_set hks fl0 hjl
                                  have hsame := mix_same hks fl0 hjl
                                  rw [getD_map (stpF q) k fl0 fl0 hjl] at hst hsame
                                  have c1 := hS.fi hjm
                                  have c0 := hS.tg hjm
                                  rw [hgd] at c1 c0
                                  obtain ⟨y, ex⟩ : ∃ y, k.getD j fl0 = y := ⟨_, rfl⟩
                                  rw [ex] at hF hbx c1 c0 hsame hgd hst
                                  obtain ⟨htb, hcx⟩ := hbx
                                  have hcl := cut_lim hcx y.tg
                                  have hcs := stp_cases q y
                                  have WI := fun W => ref19_within y.it y.tg W
                                  obtain ⟨lt, elt⟩ : ∃ v, y.it.lim y.tg = v := ⟨_, rfl⟩
                                  rw [elt] at WI hcl hcs
                                  have hlt : -1099511627776 ≤ lt ∧ lt ≤ 1099511627776 := by omega
                                  obtain ⟨d, ed⟩ : ∃ v, lt - y.tg = v := ⟨_, rfl⟩
                                  rw [ed] at hcs
                                  have wr1 : IntKind.i64.wrap (lt - y.tg) = lt - y.tg := by rw [IntWalk.i64_left]; exact IntWalk.wrap64_in _ (by omega)
                                  rw [ed] at wr1
                                  have e2 : y.tg + d = lt := by omega
                                  have hfix : ∀ W, R19 W s f b (mix (k.map (stpF q)) k j) → stpF q y = { y with tg := lt, fi := true } → R19 ((W.setCell ⟨s, j, none⟩ (.int .i64 lt)).setCell ⟨b, j, none⟩ (.bool true)) s f b (mix (k.map (stpF q)) k (j + 1)) := fun W h e => by
                                    have r := h.fix hjm lt
                                    rw [hgd, ← e, hst] at r
                                    exact r
                                  have HFIX := Lib.hid hfix
                                  have HCS := Lib.hid hcs
                                  have HSM := Lib.hid hsame
                                  have HJM := Lib.hid hjm
                                  have HGD := Lib.hid hgd
                                  have HF := Lib.hid (show ∀ W, Below w.heap.size w W → FxAt W g1 (o1 + j * 7) y.it from fun W hW => FxAt.below hF hg1 hW)
                                  have RSZ := Lib.hid hS
                                  have RBZ := Lib.hid hB
                                  have CT := Lib.hid (show ∀ W, Below wz.heap.size wz W → W.cell? ⟨s, j, none⟩ = some (.int .i64 y.tg) from fun W hW => by
                                    have r := (hS.below hW).tg hjm
                                    rw [hgd] at r
                                    exact r)
                                  obtain ⟨tg, etg⟩ : ∃ v, y.tg = v := ⟨_, rfl⟩
                                  rw [etg] at CT e2 ed htb WI
                                  clear hfix hcs hsame hjm hgd hF hS hB c0 c1 hit hst ex hcl hcx hks hjl
                                  unfold Fx.val at WI
                                  go_upto_region 48 with (fail)
                                  rename_i K1 hK1
                                  refine wp_region_calm (fun w' => Below wz.heap.size wz w') [] (fun w' => True) [Is (.slice (some ⟨g1, o1, none⟩) mp cl), Is (.int .i64 ((j : Int))), Is (.pointer (some ⟨g1, o1 + j * 7, none⟩)), Is y.it.val, Is (.slice (some ⟨s, 0, none⟩) mp mp), Is (.int .i64 ((j : Int))), Is (.pointer (some ⟨s, j, none⟩)), Is (.int .i64 tg), Is (.int .i64 lt), Is (.slice (some ⟨s, 0, none⟩) mp mp), Is (.int .i64 ((j : Int))), Is (.pointer (some ⟨s, j, none⟩)), Is (.int .i64 tg), Is (.int .i64 d), Is (.int .i64 d)] [] (by kernel_rfl) (by kernel_rfl) (by kernel_rfl) (by kernel_rfl) (Below.refl _ _).drew trivial ?_ ?_ ?_ ?_ ?_
                                  · rintro W W' hBB hb
                                    exact hBB.trans (hb.mono hBB.size)
                                  · exact fun _ _ _ _ _ => trivial
                                  · intro k vs W hk h
                                    exact absurd hk (by simp)
                                  · intro Q; clear hK1 
                                    refine ⟨?_, ?_, ?_, ?_, ?_, ?_, ?_, ?_, ?_, ?_, ?_, ?_, ?_, ?_, ?_, trivial⟩
                                    · intro vs W hW hW0 hd hne hold K hK hA hL; clear hne hA hL; have hBB := hW; simp only [puts, Act.put, List.setIfInBounds_toArray, List.set_cons_zero, List.set_cons_succ, Nat.zero_add, Nat.reduceAdd] at hK ⊢; clear hd hold; go_simp; exact hK.out rfl _ _ (Below.refl _ _) rfl
                                    · intro vs W hW hW0 hd hne hold K hK hA hL; clear hne hA hL; have hBB := hW; simp only [puts, Act.put, List.setIfInBounds_toArray, List.set_cons_zero, List.set_cons_succ, Nat.zero_add, Nat.reduceAdd] at hK ⊢; clear hd hold; go_simp; exact hK.out rfl _ _ (Below.refl _ _) rfl
                                    · intro vs W hW hW0 hd hne hold K hK hA hL; clear hne hA hL; have hBB := hW; simp only [puts, Act.put, List.setIfInBounds_toArray, List.set_cons_zero, List.set_cons_succ, Nat.zero_add, Nat.reduceAdd] at hK ⊢; have e0 : vs 0 = _ := hd 0 (by kernel_rfl); have e1 : vs 1 = _ := hd 1 (by kernel_rfl); clear hd hold; simp only [e0, e1] at hK; go_simp; exact hK.out rfl _ _ (Below.refl _ _) rfl
                                    · intro vs W hW hW0 hd hne hold K hK hA hL; clear hne hA hL; have hBB := hW; simp only [puts, Act.put, List.setIfInBounds_toArray, List.set_cons_zero, List.set_cons_succ, Nat.zero_add, Nat.reduceAdd] at hK ⊢; obtain ⟨h0, h1, h2, h3, h4, h5, h6⟩ := HF.out W (RBZ.out.trans (hBB.mono RBZ.out.size)); have eb : vs 2 = _ := hd 2 (by kernel_rfl); clear hd hold; simp only [eb, Fx.val] at hK ⊢; go_simp; exact hK.out rfl _ _ (Below.refl _ _) rfl
                                    · intro vs W hW hW0 hd hne hold K hK hA hL; clear hne hA hL; have hBB := hW; simp only [puts, Act.put, List.setIfInBounds_toArray, List.set_cons_zero, List.set_cons_succ, Nat.zero_add, Nat.reduceAdd] at hK ⊢; clear hd hold; go_simp; exact hK.out rfl _ _ (Below.refl _ _) rfl
                                    · intro vs W hW hW0 hd hne hold K hK hA hL; clear hne hA hL; have hBB := hW; simp only [puts, Act.put, List.setIfInBounds_toArray, List.set_cons_zero, List.set_cons_succ, Nat.zero_add, Nat.reduceAdd] at hK ⊢; clear hd hold; go_simp; exact hK.out rfl _ _ (Below.refl _ _) rfl
                                    · intro vs W hW hW0 hd hne hold K hK hA hL; clear hne hA hL; have hBB := hW; simp only [puts, Act.put, List.setIfInBounds_toArray, List.set_cons_zero, List.set_cons_succ, Nat.zero_add, Nat.reduceAdd] at hK ⊢; have e4 : vs 4 = _ := hd 4 (by kernel_rfl); have e5 : vs 5 = _ := hd 5 (by kernel_rfl); clear hd hold; simp only [e4, e5] at hK; go_simp; exact hK.out rfl _ _ (Below.refl _ _) rfl
                                    · intro vs W hW hW0 hd hne hold K hK hA hL; clear hne hA hL; have hBB := hW; simp only [puts, Act.put, List.setIfInBounds_toArray, List.set_cons_zero, List.set_cons_succ, Nat.zero_add, Nat.reduceAdd] at hK ⊢; have h0 := CT.out W hBB; have eb : vs 6 = _ := hd 6 (by kernel_rfl); clear hd hold; simp only [eb] at hK; go_simp; exact hK.out rfl _ _ (Below.refl _ _) rfl
                                    · intro vs W hW hW0 hd hne hold K hK hA hL; clear hne hA hL; have hBB := hW; simp only [puts, Act.put, List.setIfInBounds_toArray, List.set_cons_zero, List.set_cons_succ, Nat.zero_add, Nat.reduceAdd] at hK ⊢; have eb : vs 3 = _ := hd 3 (by kernel_rfl); have ed : vs 7 = _ := hd 7 (by kernel_rfl); clear hd hold; simp only [eb, ed] at hK; go_simp; refine (WI W).mono ?_; (rintro e wx ⟨rfl, hbx⟩); go_simp; exact hK.out rfl _ _ hbx rfl
                                    · intro vs W hW hW0 hd hne hold K hK hA hL; clear hne hA hL; have hBB := hW; simp only [puts, Act.put, List.setIfInBounds_toArray, List.set_cons_zero, List.set_cons_succ, Nat.zero_add, Nat.reduceAdd] at hK ⊢; clear hd hold; go_simp; exact hK.out rfl _ _ (Below.refl _ _) rfl
                                    · intro vs W hW hW0 hd hne hold K hK hA hL; clear hne hA hL; have hBB := hW; simp only [puts, Act.put, List.setIfInBounds_toArray, List.set_cons_zero, List.set_cons_succ, Nat.zero_add, Nat.reduceAdd] at hK ⊢; clear hd hold; go_simp; exact hK.out rfl _ _ (Below.refl _ _) rfl
                                    · intro vs W hW hW0 hd hne hold K hK hA hL; clear hne hA hL; have hBB := hW; simp only [puts, Act.put, List.setIfInBounds_toArray, List.set_cons_zero, List.set_cons_succ, Nat.zero_add, Nat.reduceAdd] at hK ⊢; have e9 : vs 9 = _ := hd 9 (by kernel_rfl); have e10 : vs 10 = _ := hd 10 (by kernel_rfl); clear hd hold; simp only [e9, e10] at hK; go_simp; exact hK.out rfl _ _ (Below.refl _ _) rfl
                                    · intro vs W hW hW0 hd hne hold K hK hA hL; clear hne hA hL; have hBB := hW; simp only [puts, Act.put, List.setIfInBounds_toArray, List.set_cons_zero, List.set_cons_succ, Nat.zero_add, Nat.reduceAdd] at hK ⊢; have h0 := CT.out W hBB; have eb : vs 11 = _ := hd 11 (by kernel_rfl); clear hd hold; simp only [eb] at hK; go_simp; exact hK.out rfl _ _ (Below.refl _ _) rfl
                                    · intro vs W hW hW0 hd hne hold K hK hA hL; clear hne hA hL; have hBB := hW; simp only [puts, Act.put, List.setIfInBounds_toArray, List.set_cons_zero, List.set_cons_succ, Nat.zero_add, Nat.reduceAdd] at hK ⊢; have e8 : vs 8 = _ := hd 8 (by kernel_rfl); have e12 : vs 12 = _ := hd 12 (by kernel_rfl); clear hd hold; simp only [e8, e12] at hK; go_simp; exact hK.out rfl _ _ (Below.refl _ _) rfl
                                    · intro vs W hW hW0 hd hne hold K hK hA hL; clear hne hA hL; have hBB := hW; simp only [puts, Act.put, List.setIfInBounds_toArray, List.set_cons_zero, List.set_cons_succ, Nat.zero_add, Nat.reduceAdd] at hK ⊢; have e13 : vs 13 = _ := hd 13 (by kernel_rfl); clear hd hold; simp only [e13] at hK; go_simp; exact hK.out rfl _ _ (Below.refl _ _) rfl
                                  · intro vb WC hW1 hV1 _
                                    have h14 : vb 14 = .int .i64 d := hV1 14 (by decide)
                                    simp only [puts, Act.put, List.setIfInBounds_toArray, List.set_cons_zero, List.set_cons_succ, Nat.zero_add, Nat.reduceAdd, h14]
                                    clear h14 hV1
                                    refine hK1 _ _ ?_
                                    clear hK1
                                    have hS7 := RSZ.out.below hW1
                                    have hB7 := RBZ.out.trans (hW1.mono RBZ.out.size)
                                    have c0 := CT.out WC hW1
                                    have c1 := hS7.fi HJM.out
                                    rw [HGD.out] at c1
                                    have f0 := hS7.1.free j
                                    have f1 := hS7.2.2.1.free j
                                    obtain ⟨p1, p2, p3, p4, p5, p6⟩ := HCS.out
                                    have HFX := Lib.hid (HFIX.out WC hS7)
                                    have RS7 := Lib.hid hS7
                                    have RB7 := Lib.hid hB7
                                    clear hW1 hS7 hB7 RSZ RBZ CT WI wr1 HF HFIX HCS HGD HJM ed etg
                                    cases hy : y.fi
                                    · rw [hy] at c1
                                      rcases Int.lt_trichotomy q 0 with hq | hq | hq
                                      · have hq0 : (q == 0) = false := by simp; omega
                                        have hq1 : ¬ 0 < q := by omega
                                        by_cases hd : d < 0
                                        · have hr := HFX.out (p5 hy hq hd)
                                          have HRR := Lib.hid hr
                                          clear hr p1 p2 p3 p4 p5 p6 HFX
                                          go_wp2_with fail
                                          go_roundg (mp - (j + 1))
                                          case measure => omega
                                          case rel => exact ⟨j + 1, by omega, rfl, by go_num, HRR.out, by have hB7 := RB7.out; exact (by repeat' (first | (with_reducible exact Below.refl _ _) | (with_reducible assumption) | (with_reducible refine below_alloc ?_ _ ?_) | (with_reducible refine below_set _ ?_ ?_) | (with_reducible refine Below.drew ?_) | (with_reducible refine below_dN ?_ _) | (apply below_thenA; assumption) | omega | (simp; done) | (simp; omega) | (simp [*]; done)))⟩
                                        · have hsm := HSM.out (p6 hy hq hd)
                                          have HM := Lib.hid hsm
                                          clear hsm p1 p2 p3 p4 p5 p6 HFX
                                          go_wp2_with fail
                                          go_roundg (mp - (j + 1))
                                          case measure => omega
                                          case rel => exact ⟨j + 1, by omega, rfl, by go_num, by rw [← HM.out]; exact RS7.out, RB7.out⟩
                                      · have hq0 : (q == 0) = true := by simp [hq]
                                        have hr := HFX.out (p2 hy hq)
                                        have HRR := Lib.hid hr
                                        clear hr p1 p2 p3 p4 p5 p6 HFX
                                        go_wp2_with fail
                                        go_roundg (mp - (j + 1))
                                        case measure => omega
                                        case rel => exact ⟨j + 1, by omega, rfl, by go_num, HRR.out, by have hB7 := RB7.out; exact (by repeat' (first | (with_reducible exact Below.refl _ _) | (with_reducible assumption) | (with_reducible refine below_alloc ?_ _ ?_) | (with_reducible refine below_set _ ?_ ?_) | (with_reducible refine Below.drew ?_) | (with_reducible refine below_dN ?_ _) | (apply below_thenA; assumption) | omega | (simp; done) | (simp; omega) | (simp [*]; done)))⟩
                                      · have hq0 : (q == 0) = false := by simp; omega
                                        have hq1 : ¬ q < 0 := by omega
                                        by_cases hd : 0 < d
                                        · have hr := HFX.out (p3 hy hq hd)
                                          have HRR := Lib.hid hr
                                          clear hr p1 p2 p3 p4 p5 p6 HFX
                                          go_wp2_with fail
                                          go_roundg (mp - (j + 1))
                                          case measure => omega
                                          case rel => exact ⟨j + 1, by omega, rfl, by go_num, HRR.out, by have hB7 := RB7.out; exact (by repeat' (first | (with_reducible exact Below.refl _ _) | (with_reducible assumption) | (with_reducible refine below_alloc ?_ _ ?_) | (with_reducible refine below_set _ ?_ ?_) | (with_reducible refine Below.drew ?_) | (with_reducible refine below_dN ?_ _) | (apply below_thenA; assumption) | omega | (simp; done) | (simp; omega) | (simp [*]; done)))⟩
                                        · have hsm := HSM.out (p4 hy hq hd)
                                          have HM := Lib.hid hsm
                                          clear hsm p1 p2 p3 p4 p5 p6 HFX
                                          go_wp2_with fail
                                          go_roundg (mp - (j + 1))
                                          case measure => omega
                                          case rel => exact ⟨j + 1, by omega, rfl, by go_num, by rw [← HM.out]; exact RS7.out, RB7.out⟩
                                    · rw [hy] at c1
                                      have hsm := HSM.out (p1 hy)
                                      have HM := Lib.hid hsm
                                      clear hsm p1 p2 p3 p4 p5 p6 HFX
                                      go_wp2_with fail
                                      go_roundg (mp - (j + 1))
                                      case measure => omega
                                      case rel => exact ⟨j + 1, by omega, rfl, by go_num, by rw [← HM.out]; exact RS7.out, RB7.out⟩
                              · obtain rfl : mp = j := by omega
                                have ix : ¬ (mp : Int) < (mp : Int) := by omega
                                have e11 := mix_all hks
                                rw [List.length_map, HKL.out] at e11
                                rw [e11] at hS
                                have RSN := Lib.hid hS
                                have RBN := Lib.hid hB
                                clear hS hB e11 hks
                                go_wp2_with fail
                                go_roundg d'
                                case measure => omega
                                case rel => exact ⟨d', _, rfl, HLO2.out, HCN2.out, HSL2.out, HSI2.out, HBI2.out, HDI2.out, HLA2.out, RSN.out, RBN.out⟩
                  · have hc0 : c = 0 := by
                      have := (done_cnt (m := st)).2
                      rw [ec, hdn] at this
                      rcases Nat.eq_zero_or_pos c with h | h
                      · exact h
                      · exact absurd (this h) (by simp)
                    subst hc0
                    have hmst := round_done HLO.out hdn
                    subst hmst
                    have hrow := RS3.out.sizes
                    rw [HSL.out] at hrow
                    have HROW := Lib.hid hrow
                    clear hrow hS2 hB3 hB2 ho hst hfb hcl eF ec hdn
                    go_wp2_with fail
                    rw [EQ.out]
                    exact ⟨_, _, rfl, ERS.out, HROW.out, RB3.out⟩
end Go.Proofs.Ythofammjbicogaa
