/-
  The functions of package fixed, each by its contract. Fourth part: Sub; sums with plain numbers; the reference's Add.
-/
import Derived.Test.YthffphcgkmjhbaaFixC
import Derived.Test.YthffphcgkmjhbaaRefG
import Derived.Deep.LoopGhost
namespace Go.Proofs.Ythffphcgkmjhbaa
open Go.RowKit
set_option linter.unusedSimpArgs false
set_option linter.unusedVariables false

set_option maxRecDepth 100000 in
set_option maxHeartbeats 1600000 in
theorem fix_sub_yes (a b : Int) (ha : IFit a) (hb : IFit b) (hL : LenB (a - b)) (w : World) : Calls Try.prog 66 #[.int .i64 a, .int .i64 b] w fun e w' => e = .returned (.int .i64 (a - b)) ∧ w' = w := by
  have CA := fix_clipped a ha
  have CB := fix_clipped b hb
  have hS : LenB (clip a - clip b) := by unfold LenB clip at *; omega
  have a1 := clip_lo a
  have a2 := clip_hi a
  have b1 := clip_lo b
  have b2 := clip_hi b
  have hD := hL.fit
  have hSf := hS.fit
  obtain ⟨d1, d2⟩ := hL
  obtain ⟨A, eA⟩ : ∃ A, clip a = A := ⟨_, rfl⟩
  obtain ⟨B, eB⟩ : ∃ B, clip b = B := ⟨_, rfl⟩
  rw [eA] at CA hS hSf a1 a2
  rw [eB] at CB hS hSf b1 b2
  clear eA eB ha hb
  have OF1 := fix_of (A - B) hSf hS
  have OF2 := fix_of (a - b) hD ⟨d1, d2⟩
  go_enter Try.func66, Try.ntmps66
  go_wp2_with (first
    | (go_at_call 118; with_reducible refine (CA _).mono ?_; rintro e w1 ⟨rfl, rfl⟩)
    | (go_at_call 118; with_reducible refine (CB _).mono ?_; rintro e w1 ⟨rfl, rfl⟩)
    | (go_at_call 68; with_reducible refine (OF1 _).mono ?_; rintro e w2 ⟨rfl, rfl⟩)
    | (go_at_call 68; with_reducible refine (OF2 _).mono ?_; rintro e w2 ⟨rfl, rfl⟩))
  go_ret
  exact ⟨rfl, rfl⟩
set_option maxRecDepth 100000 in
set_option maxHeartbeats 1600000 in
theorem fix_sub_no (a b : Int) (ha : IFit a) (hb : IFit b) (hL : ¬ LenB (a - b)) (w : World) : Calls Try.prog 66 #[.int .i64 a, .int .i64 b] w fun e w' => e = .panicked (gave 2) ∧ w' = w := by
  have CA := fix_clipped a ha
  have CB := fix_clipped b hb
  have a1 := clip_lo a
  have a2 := clip_hi a
  have b1 := clip_lo b
  have b2 := clip_hi b
  have hSf : IFit (clip a - clip b) := by unfold IFit; omega
  by_cases hS : LenB (clip a - clip b)
  · have hD : IFit (a - b) := by unfold LenB clip at hS; unfold IFit at *; omega
    obtain ⟨A, eA⟩ : ∃ A, clip a = A := ⟨_, rfl⟩
    obtain ⟨B, eB⟩ : ∃ B, clip b = B := ⟨_, rfl⟩
    rw [eA] at CA hS hSf a1 a2
    rw [eB] at CB hS hSf b1 b2
    have OF1 := fix_of (A - B) hSf hS
    have OF2 := fix_of_no (a - b) hD hL
    obtain ⟨d1, d2⟩ := hD
    clear eA eB ha hb hL
    go_enter Try.func66, Try.ntmps66
    go_wp2_with (first
      | (go_at_call 118; with_reducible refine (CA _).mono ?_; rintro e w1 ⟨rfl, rfl⟩)
      | (go_at_call 118; with_reducible refine (CB _).mono ?_; rintro e w1 ⟨rfl, rfl⟩)
      | (go_at_call 68; with_reducible refine (OF1 _).mono ?_; rintro e w2 ⟨rfl, rfl⟩)
      | (go_at_call 68; with_reducible refine (OF2 _).mono ?_; rintro e w2 ⟨rfl, rfl⟩))
    simp [bodyPost]
  · obtain ⟨A, eA⟩ : ∃ A, clip a = A := ⟨_, rfl⟩
    obtain ⟨B, eB⟩ : ∃ B, clip b = B := ⟨_, rfl⟩
    rw [eA] at CA hS hSf a1 a2
    rw [eB] at CB hS hSf b1 b2
    have OF1 := fix_of_no (A - B) hSf hS
    clear eA eB ha hb hL
    go_enter Try.func66, Try.ntmps66
    go_wp2_with (first
      | (go_at_call 118; with_reducible refine (CA _).mono ?_; rintro e w1 ⟨rfl, rfl⟩)
      | (go_at_call 118; with_reducible refine (CB _).mono ?_; rintro e w1 ⟨rfl, rfl⟩)
      | (go_at_call 68; with_reducible refine (OF1 _).mono ?_; rintro e w2 ⟨rfl, rfl⟩))
    simp [bodyPost]
def lenE (x : Int) : Int := if lenB x then 0 else 2
def lenN (x : Int) : Int := if lenB x then x else 0
theorem lenN_no {x : Int} (h : lenE x ≠ 0) : lenN x = 0 := by
  unfold lenE at h
  unfold lenN
  cases hl : lenB x
  · rfl
  · rw [hl] at h; exact absurd rfl h
theorem fix_sub (a b : Int) (ha : IFit a) (hb : IFit b) (w : World) : Calls Try.prog 66 #[.int .i64 a, .int .i64 b] w (Gives (lenN (a - b)) (lenE (a - b)) w) := by
  unfold Gives lenN lenE
  cases hl : lenB (a - b)
  · exact (fix_sub_no a b ha hb (fun h => by rw [(lenB_iff _).2 h] at hl; cases hl) w).mono fun e w' h => ⟨fun h => by simp at h, fun _ => h.1, by rw [h.2]; exact Below.refl _ _⟩
  · exact (fix_sub_yes a b ha hb ((lenB_iff _).1 hl) w).mono fun e w' h => ⟨fun _ => h.1, fun h => by simp at h, by rw [h.2]; exact Below.refl _ _⟩
theorem fix_of_any (a : Int) (ha : IFit a) (w : World) : Calls Try.prog 68 #[.int .i64 a] w (Gives (lenN a) (lenE a) w) := by
  unfold Gives lenN lenE
  cases hl : lenB a
  · exact (fix_of_no a ha (fun h => by rw [(lenB_iff _).2 h] at hl; cases hl) w).mono fun e w' h => ⟨fun h => by simp at h, fun _ => h.1, by rw [h.2]; exact Below.refl _ _⟩
  · exact (fix_of a ha ((lenB_iff _).1 hl) w).mono fun e w' h => ⟨fun _ => h.1, fun h => by simp at h, by rw [h.2]; exact Below.refl _ _⟩
/-- The sum, each sum on the way a length. -/
def addP : Int → List Int → Option Int
  | s, [] => some s
  | s, x :: xs => if lenB (s + x) then addP (s + x) xs else none
theorem addS_eq : ∀ (xs : List Int) (s : Int), LenB s → addS s xs = addP s xs
  | [], s, _ => rfl
  | x :: xs, s, hs => by
    unfold addP
    by_cases h : LenB (s + clip x)
    · have e : clip x = x := by unfold LenB clip at *; omega
      rw [e] at h
      rw [addS_cons_yes (by rw [e]; exact h), e, if_pos ((lenB_iff _).2 h)]
      exact addS_eq xs _ h
    · have h2 : ¬ lenB (s + x) = true := fun h3 => h (by
        have h4 := (lenB_iff _).1 h3
        unfold LenB clip at *; omega)
      rw [addS_cons_no h, if_neg h2]
def addN (xs : List Int) : Int := (addP 0 xs).getD 0
def addE (xs : List Int) : Int := if (addP 0 xs).isSome then 0 else 2
theorem addN_no {xs : List Int} (h : addE xs ≠ 0) : addN xs = 0 := by
  unfold addE at h
  unfold addN
  cases hl : addP 0 xs
  · rfl
  · rw [hl] at h; exact absurd rfl h
theorem fix_add_any (g off k cap : Nat) (xs : List Int) (hk : k ≤ 1000000) (w : World) (hx : IntsAt w g off k xs) :
    Calls Try.prog 64 #[.slice (some ⟨g, off, none⟩) k cap] w (Gives (addN xs) (addE xs) w) := by
  refine (fix_add g off k cap xs _ hk rfl w hx).mono fun e w' h => ?_
  obtain ⟨h1, h2⟩ := h
  rw [addS_eq xs 0 (by unfold LenB; omega)] at h1
  unfold Gives addN addE
  rw [h2]
  cases hp : addP 0 xs <;> rw [hp] at h1
  · exact ⟨fun h => by simp at h, fun _ => h1, Below.refl _ _⟩
  · exact ⟨fun _ => h1, fun h => by simp at h, Below.refl _ _⟩
set_option maxRecDepth 100000 in
set_option maxHeartbeats 1600000 in
theorem fix_add_nil (w : World) : Calls Try.prog 64 #[.slice none 0 0] w (Gives (addN []) (addE []) w) := by
  have hP : Gives (addN []) (addE []) w (.returned (.int .i64 0)) w := ⟨fun _ => rfl, fun h => by simp [addE, addP] at h, Below.refl _ _⟩
  obtain ⟨G, eG⟩ : ∃ G, G = Gives (addN []) (addE []) w := ⟨_, rfl⟩
  rw [← eG] at hP ⊢
  have HP := Lib.hid hP
  clear hP eG
  go_enter Try.func64, Try.ntmps64
  go_wp2_with fail
  go_loopg [3, 8] 0 (fun gk s3 s8 wr => s3 = .int .i64 0 ∧ s8 = .int .i64 0 ∧ w = wr)
  case atStart => exact ⟨rfl, rfl, rfl⟩
  case round =>
    obtain ⟨rfl, rfl, rfl⟩ := hrel
    go_wp2_with fail
    exact HP.out
def heldC (b : Nat) (n : Int) : Cl := .own (fun _ w => ∃ neg ao k cap, Two w b (.bool neg) (.slice ao k cap) ∧ IsBig w neg ao k cap n) (fun _ _ _ h hb => by
  obtain ⟨a, b, c, d, t, i⟩ := h; exact ⟨a, b, c, d, t.below hb, i.keep hb⟩)
def AddRel (w : World) (b4 : Nat) (k : Nat) (xs : List Int) (r : Option Int) (gk : Nat) (s5 : Value) (wr : World) : Prop :=
  ∃ (j : Nat) (s : Int) (neg : Bool) (ao : Option Addr) (kk cap : Nat), j ≤ k ∧ gk = k - j ∧ s5 = .int .i64 ((j : Int)) ∧ Two wr b4 (.bool neg) (.slice ao kk cap) ∧ IsBig wr neg ao kk cap s ∧ lenB s = true ∧ addP s (xs.drop j) = r ∧ Below w.heap.size w wr
theorem len_sz {s : Int} (h : lenB s = true) : BM.Sz s 3 := by
  have := (lenB_iff s).1 h
  have e : (65536 : Nat) ^ 3 = 281474976710656 := by decide
  unfold LenB at this; unfold BM.Sz; omega
set_option maxRecDepth 100000 in
set_option maxHeartbeats 3200000 in
theorem ref4_add (g off k cap : Nat) (xs : List Int) (hk : k ≤ 1000000) (w : World) (hx : IntsAt w g off k xs) (hg : g < w.heap.size) :
    Calls Try.prog 69 #[.slice (some ⟨g, off, none⟩) k cap] w fun e w' => e = .returned (.tuple #[.int .i64 (addN xs), .int .i64 (addE xs)]) ∧ Below w.heap.size w w' := by
  obtain ⟨hl, hf, hc⟩ := hx
  have HL := Lib.hid hl
  have HF := Lib.hid hf
  have HC := Lib.hid hc
  obtain ⟨r, er⟩ : ∃ r, addP 0 xs = r := ⟨_, rfl⟩
  have eN : addN xs = r.getD 0 := by unfold addN; rw [er]
  have eE : addE xs = if r.isSome then 0 else 2 := by unfold addE; rw [er]
  rw [eN, eE]
  have HR := Lib.hid er
  clear hl hf hc er eN eE
  go_enter Try.func69, Try.ntmps69
  go_wp2_with fail
  refine (big_ofu 0 (by omega) _).mono ?_
  rintro e w1 ⟨a1, a2, a3, a4, rfl, I1, hB⟩
  have t := Two.new w1 (.bool a1) (.slice a2 a3 a4) _ rfl
  replace I1 := I1.keep (w' := w1.alloc (.cells #[.bool a1, .slice a2 a3 a4] 29)) (by repeat' (first | (with_reducible exact Below.refl _ _) | (with_reducible assumption) | (with_reducible refine below_alloc ?_ _ ?_) | (with_reducible refine below_set _ ?_ ?_) | (with_reducible refine Below.drew ?_) | (with_reducible refine below_dN ?_ _) | (apply below_thenA; assumption) | omega | (simp; done) | (simp; omega) | (simp [*]; done)))
  have hb4 : w.heap.size ≤ w1.heap.size := hB.size
  replace hB := hB.alloc hB.size (.cells #[.bool a1, .slice a2 a3 a4] 29)
  have HB := Lib.hid hB
  have HT := Lib.hid t
  have HI := Lib.hid I1
  clear hB t I1
  go_wp2_with fail
  go_loopg [5] k (fun gk s5 wr => AddRel w w1.heap.size k xs r gk s5 wr)
  case atStart => exact ⟨0, 0, a1, a2, a3, a4, by omega, by omega, rfl, HT.out, HI.out, rfl, HR.out, HB.out⟩
  case round =>
    clear HB HT HI HR
    obtain ⟨j, s, neg, ao, kk, cp, hj, rfl, rfl, t, I, hs, hd, hB⟩ := hrel
    have HD := Lib.hid hd
    clear hd
    have hkk := I.le (len_sz hs)
    by_cases hjk : j < k
    · have ix : (j : Int) < (k : Int) := by omega
      have hcx : wr.cell? ⟨g, off + j, none⟩ = _ := (hB.cell (p := ⟨g, off + j, none⟩) hg).trans (HC.out j hjk)
      have hfx := HF.out j hjk
      obtain ⟨x, ex⟩ : ∃ x, xs.getD j 0 = x := ⟨_, rfl⟩
      have ed : xs.drop j = x :: xs.drop (j + 1) := by
        have : j < xs.length := by rw [HL.out]; exact hjk
        rw [List.drop_eq_getElem_cons this, ← ex]; simp [List.getD, this]
      rw [ex] at hcx hfx
      have HE := Lib.hid ed
      clear ed ex
      have hs' := hs
      have hcx0 : w.cell? ⟨g, off + j, none⟩ = some (.int .i64 x) := (hB.cell (p := ⟨g, off + j, none⟩) hg).symm.trans hcx
      have hlt := t.lt
      have sx := BM.Sz.i64 hfx.1 hfx.2
      have ssx := BM.Sz.add ((len_sz hs').mono (k := 4) (by omega)) sx
      obtain ⟨x1, x2⟩ := hfx
      have hbx := hg
      go_upto_region 5 with (fail)
      rename_i K0 hK0
      refine wp_region_calm (fun w' => Below w.heap.size w w') [7] (fun w' => Two w' w1.heap.size (.bool neg) (.slice ao kk cp) ∧ IsBig w' neg ao kk cp s) [bigC s, Is (.slice (some ⟨g, off, none⟩) k cap), Is (.int .i64 ((j : Int))), Is (.pointer (some ⟨g, off + j, none⟩)), Is (.int .i64 x), bigC x, bigC (s + x), heldC w1.heap.size (s + x)] [] (by kernel_rfl) (by kernel_rfl) (by kernel_rfl) (by kernel_rfl) hB.drew ⟨t, I.drewd⟩ ?_ ?_ ?_ ?_ ?_
      · rintro W W' hB hb
        exact hB.trans (hb.mono hB.size)
      · intro W W' hB h0 hb; exact ⟨h0.1.below hb, h0.2.keep hb⟩
      · intro k vs W hk h
        exact absurd hk (by simp)
      · intro Q; clear hK0 t I
        refine ⟨?_, ?_, ?_, ?_, ?_, ?_, ?_, ?_, trivial⟩
        · intro vs W hW hW0 hd hne hold K hK hA hL; clear hne hA hL; have hB := hW; simp only [puts, Act.put, List.setIfInBounds_toArray, List.set_cons_zero, List.set_cons_succ, Nat.zero_add, Nat.reduceAdd] at hK ⊢; have h0 := hW0 (by kernel_rfl); have q := (h0.1).cells; have q1 := q.1; have q2 := q.2.1; clear hd hold; go_simp; exact hK.out rfl _ _ (Below.refl _ _) ⟨neg, ao, kk, cp, rfl, h0.2⟩
        · intro vs W hW hW0 hd hne hold K hK hA hL; clear hne hA hL; have hB := hW; simp only [puts, Act.put, List.setIfInBounds_toArray, List.set_cons_zero, List.set_cons_succ, Nat.zero_add, Nat.reduceAdd] at hK ⊢; clear hd hold; go_simp; exact hK.out rfl _ _ (Below.refl _ _) rfl
        · intro vs W hW hW0 hd hne hold K hK hA hL; clear hne hA hL; have hB := hW; simp only [puts, Act.put, List.setIfInBounds_toArray, List.set_cons_zero, List.set_cons_succ, Nat.zero_add, Nat.reduceAdd] at hK ⊢; clear hd hold; go_simp; exact hK.out rfl _ _ (Below.refl _ _) rfl
        · intro vs W hW hW0 hd hne hold K hK hA hL; clear hne hA hL; have hB := hW; simp only [puts, Act.put, List.setIfInBounds_toArray, List.set_cons_zero, List.set_cons_succ, Nat.zero_add, Nat.reduceAdd] at hK ⊢; have e1 : vs 1 = _ := hd 1 (by kernel_rfl); have e2 : vs 2 = _ := hd 2 (by kernel_rfl); clear hd hold; simp only [e1, e2] at hK; go_simp; exact hK.out rfl _ _ (Below.refl _ _) rfl
        · have hcw : ∀ W, Below w.heap.size w W → W.cell? ⟨g, off + j, none⟩ = some (.int .i64 x) := fun W h => (h.cell (p := ⟨g, off + j, none⟩) hg).trans hcx0; intro vs W hW hW0 hd hne hold K hK hA hL; clear hne hA hL; have hB := hW; simp only [puts, Act.put, List.setIfInBounds_toArray, List.set_cons_zero, List.set_cons_succ, Nat.zero_add, Nat.reduceAdd] at hK ⊢; have hcy := hcw _ hB; have eb : vs 3 = _ := hd 3 (by kernel_rfl); clear hd hold; simp only [eb] at hK; go_simp; exact hK.out rfl _ _ (Below.refl _ _) rfl
        · intro vs W hW hW0 hd hne hold K hK hA hL; clear hne hA hL; have hB := hW; simp only [puts, Act.put, List.setIfInBounds_toArray, List.set_cons_zero, List.set_cons_succ, Nat.zero_add, Nat.reduceAdd] at hK ⊢; have eb : vs 4 = _ := hd 4 (by kernel_rfl); clear hd hold; simp only [eb] at hK; go_simp; refine (big_of x x1 x2 _).mono ?_; (rintro e wx ⟨f1, f2, f3, f4, rfl, If, hbx⟩); go_simp; exact hK.out rfl _ _ hbx ⟨f1, f2, f3, f4, rfl, If⟩
        · intro vs W hW hW0 hd hne hold K hK hA hL; clear hne hA hL; have hB := hW; simp only [puts, Act.put, List.setIfInBounds_toArray, List.set_cons_zero, List.set_cons_succ, Nat.zero_add, Nat.reduceAdd] at hK ⊢; (have hxb : BigV s (vs 0) W := hd 0 (by kernel_rfl)); obtain ⟨b1, b2, b3, b4, eb, Ib⟩ := hxb; (have hxc : BigV x (vs 5) W := hd 5 (by kernel_rfl)); obtain ⟨c1, c2, c3, c4, ec, Ic⟩ := hxc; have k2 := Ib.le (len_sz hs'); have k3 := Ic.le sx; clear hd hold; simp only [eb, ec] at hK; go_simp; refine (big_plus b1 c1 b2 c2 b3 c3 b4 c4 s x _ Ib Ic (by omega) (by omega)).mono ?_; (rintro e wx ⟨f1, f2, f3, f4, rfl, If, hbx⟩); go_simp; exact hK.out rfl _ _ hbx ⟨f1, f2, f3, f4, rfl, If⟩
        · intro vs W hW hW0 hd hne hold K hK hA hL; clear hK hA; have hB := hW; simp only [puts, Act.put, List.setIfInBounds_toArray, List.set_cons_zero, List.set_cons_succ, Nat.zero_add, Nat.reduceAdd] at hL ⊢; have h0 := hW0 (by kernel_rfl); have T := h0.1; (have hxc : BigV (s + x) (vs 6) W := hd 6 (by kernel_rfl)); obtain ⟨c1, c2, c3, c4, ec, Ic⟩ := hxc; have q := T.cells; have q1 := q.1; have q2 := q.2.1; have q3 := q.2.2.1; have q4 := q.2.2.2; clear hd hold; simp only [ec] at hL; go_simp; refine hL.out rfl undef _ (BP hB hb4 _ _) (fun h => absurd h (by decide)) ⟨c1, c2, c3, c4, T.put _ _, IsBig.put Ic T _ _⟩ ?_; exact claims_keep ⟨.inr fun h => BigV.put h T _ _, .inr is_keep, .inr is_keep, .inr is_keep, .inr is_keep, .inr fun h => BigV.put h T _ _, .inr fun h => BigV.put h T _ _, .inl rfl, trivial⟩
      · intro va WA hB hV _
        have h7 : ∃ neg ao k cap, Two WA w1.heap.size (.bool neg) (.slice ao k cap) ∧ IsBig WA neg ao k cap (s + x) := hV 7 (by decide)
        obtain ⟨n5, x5, k5, c5, t5, I5⟩ := h7
        clear hV
        simp only [puts, Act.put, List.setIfInBounds_toArray, List.set_cons_zero, List.set_cons_succ, Nat.zero_add, Nat.reduceAdd]
        refine hK0 _ _ ?_
        clear hK0 t I
        have hk5 := I5.le ssx
        have q := t5.cells
        have q1 := q.1
        have q2 := q.2.1
        clear q
        have LN := ref_length n5 x5 k5 c5 (s + x) WA I5 (by omega)
        cases hn : lenB (s + x)
        · have hr : r = none := by
            have := HD.out
            rw [HE.out] at this
            unfold addP at this
            rw [hn] at this
            exact this.symm
          rw [hn] at LN
          subst hr
          clear hn
          go_wp2_with fail
          refine LN.mono ?_
          rintro e w5 ⟨rfl, hb5⟩
          replace hB := hB.trans (hb5.mono hB.size)
          go_wp2_with fail
          go_ret2
          exact ⟨rfl, hB⟩
        · have hd2 : addP (s + x) (xs.drop (j + 1)) = r := by
            have := HD.out
            rw [HE.out] at this
            unfold addP at this
            rw [hn] at this
            exact this
          rw [hn] at LN
          have HN := Lib.hid hn
          have HD2 := Lib.hid hd2
          clear hn hd2
          go_wp2_with fail
          refine LN.mono ?_
          rintro e w5 ⟨rfl, hb5⟩
          replace hB := hB.trans (hb5.mono hB.size)
          replace t5 := t5.below hb5
          replace I5 := I5.keep hb5
          clear q1 q2 hb5
          go_wp2_with fail
          go_roundg (k - (j + 1))
          case measure => omega
          case rel => exact ⟨j + 1, s + x, n5, x5, k5, c5, by omega, rfl, by go_num, t5, I5, HN.out, HD2.out, hB⟩
    · obtain rfl : j = k := by omega
      have ix : ¬ (j : Int) < (j : Int) := by omega
      have hr : r = some s := by have := HD.out; rw [List.drop_eq_nil_of_le (by rw [HL.out]; omega)] at this; exact this.symm
      subst hr
      have q := t.cells
      have q1 := q.1
      have q2 := q.2.1
      clear q
      have TL := ref_told neg ao kk cp s wr I (by omega)
      rw [hs] at TL
      clear hs
      go_wp2_with fail
      refine TL.mono ?_
      rintro e w5 ⟨rfl, hb5⟩
      replace hB := hB.trans (hb5.mono hB.size)
      go_wp2_with fail
      go_ret2
      exact ⟨rfl, hB⟩
/-- Told, by the number. -/
theorem told_n (neg : Bool) (ao : Option Addr) (k cap : Nat) (X : Int) (w : World) (h : IsBig w neg ao k cap X) {K : Nat} (hX : BM.Sz X K) (hK : K ≤ 100000) :
    Calls Try.prog 70 #[.agg #[.bool neg, .slice ao k cap]] w fun e w' => e = .returned (.tuple #[.int .i64 (lenN X), .int .i64 (lenE X)]) ∧ Below w.heap.size w w' := by
  have := h.le hX
  exact ref_told neg ao k cap X w h (by omega)
end Go.Proofs.Ythffphcgkmjhbaa
