/-
  The reference of layer 2, each function by its contract. Fifth part: Down, Half.
-/
/-
  The functions of package fixed, each by its contract. Fourth part: Sub; sums with plain numbers; the reference's Add.
-/
/-
  Boxes of any type that a drawn region makes and fills: claims on them.
-/
/-
  Package share, each function by its contract: Split.
-/
/-
  Package share: Even; the laws' 'same' and 'speaks'.
-/
/-
  Package flexbox, each function by its contract: even, room, places.
-/
/-
  Package flexbox: spaces around things.
-/
import Derived.Test.YthofammjbicogaaZ5
import Derived.Deep.LoopGhost
import Derived.Test.YthofammjbicogaaZ1
import Derived.Deep.QuietTactic
namespace Go.Proofs.Ythofammjbicogaa
open Go.RowKit
set_option linter.unusedSimpArgs false
set_option linter.unusedVariables false

theorem pw4 : (65536 : Nat) ^ 4 = 18446744073709551616 := by decide
/-- A value is a whole number that lies in memory. -/
def BigV (n : Int) (v : Value) (w : World) : Prop := ∃ neg ao k cap, v = .agg #[.bool neg, .slice ao k cap] ∧ IsBig w neg ao k cap n
def Big2V (n p : Int) (v : Value) (w : World) : Prop := ∃ (qn : Bool) (qa : Option Addr) (qk qc : Nat) (rn : Bool) (ra : Option Addr) (rk rc : Nat), v = .tuple #[.agg #[.bool qn, .slice qa qk qc], .agg #[.bool rn, .slice ra rk rc]] ∧ IsBig w qn qa qk qc n ∧ IsBig w rn ra rk rc p
/-- A value points to a box of this kind, from this block on. -/
def BoxV (B : Nat) (v : Value) (w : World) : Prop := ∃ b x y, v = .pointer (some ⟨b, 0, none⟩) ∧ B ≤ b ∧ Two w b x y
/-- A box holds a whole number. -/
def BoxBig (B : Nat) (n : Int) (v : Value) (w : World) : Prop := ∃ b neg ao k cap, v = .pointer (some ⟨b, 0, none⟩) ∧ B ≤ b ∧ Two w b (.bool neg) (.slice ao k cap) ∧ IsBig w neg ao k cap n
theorem BigV.below {n : Int} {v : Value} {w w' : World} (h : BigV n v w) (hb : Below w.heap.size w w') : BigV n v w' := by
  obtain ⟨a, b, c, d, e, f⟩ := h; exact ⟨a, b, c, d, e, f.keep hb⟩
theorem Big2V.below {n p : Int} {v : Value} {w w' : World} (h : Big2V n p v w) (hb : Below w.heap.size w w') : Big2V n p v w' := by
  obtain ⟨a, b, c, d, a', b', c', d', e, f, g⟩ := h; exact ⟨a, b, c, d, a', b', c', d', e, f.keep hb, g.keep hb⟩
theorem BoxV.below {B : Nat} {v : Value} {w w' : World} (h : BoxV B v w) (hb : Below w.heap.size w w') : BoxV B v w' := by
  obtain ⟨b, x, y, e, f, g⟩ := h; exact ⟨b, x, y, e, f, g.below hb⟩
theorem BoxBig.below {B : Nat} {n : Int} {v : Value} {w w' : World} (h : BoxBig B n v w) (hb : Below w.heap.size w w') : BoxBig B n v w' := by
  obtain ⟨b, x, y, c, d, e, f, g, i⟩ := h; exact ⟨b, x, y, c, d, e, f, g.below hb, i.keep hb⟩

def bigC (n : Int) : Cl := .own (BigV n) (fun _ _ _ h hb => h.below hb)
def big2C (n p : Int) : Cl := .own (Big2V n p) (fun _ _ _ h hb => h.below hb)
def boxC (B : Nat) : Cl := .own (BoxV B) (fun _ _ _ h hb => h.below hb)
def boxAt (j B : Nat) (n : Int) : Cl := .at j (BoxBig B n) (fun _ _ _ h hb => h.below hb)
theorem BigV.put {n : Int} {v : Value} {w : World} {b : Nat} {y1 y2 : Value} (h : BigV n v w) (t : Two w b y1 y2) (u1 u2 : Value) : BigV n v ((w.setCell ⟨b, 0, none⟩ u1).setCell ⟨b, 1, none⟩ u2) := by
  obtain ⟨a1, a2, a3, a4, e, h⟩ := h; exact ⟨a1, a2, a3, a4, e, IsBig.put h t u1 u2⟩
theorem Big2V.put {n p : Int} {v : Value} {w : World} {b : Nat} {y1 y2 : Value} (h : Big2V n p v w) (t : Two w b y1 y2) (u1 u2 : Value) : Big2V n p v ((w.setCell ⟨b, 0, none⟩ u1).setCell ⟨b, 1, none⟩ u2) := by
  obtain ⟨a1, a2, a3, a4, b1, b2, b3, b4, e, h, g⟩ := h; exact ⟨a1, a2, a3, a4, b1, b2, b3, b4, e, IsBig.put h t u1 u2, IsBig.put g t u1 u2⟩
theorem BoxV.put {B : Nat} {v : Value} {w : World} {b : Nat} {y1 y2 : Value} (h : BoxV B v w) (t : Two w b y1 y2) (u1 u2 : Value) : BoxV B v ((w.setCell ⟨b, 0, none⟩ u1).setCell ⟨b, 1, none⟩ u2) := by
  obtain ⟨c, x, y, e, h1, h2⟩ := h
  by_cases hc : c = b
  · subst hc; exact ⟨c, u1, u2, e, h1, t.put u1 u2⟩
  · exact ⟨c, x, y, e, h1, h2.put_other hc u1 u2⟩
theorem BoxBig.put {B : Nat} {n : Int} {v : Value} {w : World} {b : Nat} {y1 y2 : Value} (h : BoxBig B n v w) (hne : v ≠ .pointer (some ⟨b, 0, none⟩)) (t : Two w b y1 y2) (u1 u2 : Value) : BoxBig B n v ((w.setCell ⟨b, 0, none⟩ u1).setCell ⟨b, 1, none⟩ u2) := by
  obtain ⟨c, a1, a2, a3, a4, e, h1, h2, h3⟩ := h
  have hc : c ≠ b := fun x => hne (by rw [e, x])
  exact ⟨c, a1, a2, a3, a4, e, h1, h2.put_other hc u1 u2, IsBig.put h3 t u1 u2⟩
end Go.Proofs.Ythofammjbicogaa
namespace Go.Proofs.Ythofammjbicogaa
open Go.RowKit
set_option linter.unusedSimpArgs false
set_option linter.unusedVariables false

set_option maxRecDepth 100000 in
set_option maxHeartbeats 1600000 in
theorem fix_sub_yes (a b : Int) (ha : IFit a) (hb : IFit b) (hL : LenB (a - b)) (w : World) : Calls Try.prog 81 #[.int .i64 a, .int .i64 b] w fun e w' => e = .returned (.int .i64 (a - b)) ∧ w' = w := by
  have CA := fix_clipped a ha
  have CB := fix_clipped b hb
  have hS : LenB (clip a - clip b) := by unfold LenB clip at *; omega
  have a1 := clip_lo a
  have a2 := clip_hi a
  have b1 := clip_lo b
  have b2 := clip_hi b
  have hD := hL.fit
  have hSf := hS.fit
  obtain ⟨d1, d2⟩ := hL
  obtain ⟨A, eA⟩ : ∃ A, clip a = A := ⟨_, rfl⟩
  obtain ⟨B, eB⟩ : ∃ B, clip b = B := ⟨_, rfl⟩
  rw [eA] at CA hS hSf a1 a2
  rw [eB] at CB hS hSf b1 b2
  clear eA eB ha hb
  have OF1 := fix_of (A - B) hSf hS
  have OF2 := fix_of (a - b) hD ⟨d1, d2⟩
  go_enter Try.func81, Try.ntmps81
  go_wp2_with (first
    | (go_at_call 87; with_reducible refine (CA _).mono ?_; rintro e w1 ⟨rfl, rfl⟩)
    | (go_at_call 87; with_reducible refine (CB _).mono ?_; rintro e w1 ⟨rfl, rfl⟩)
    | (go_at_call 56; with_reducible refine (OF1 _).mono ?_; rintro e w2 ⟨rfl, rfl⟩)
    | (go_at_call 56; with_reducible refine (OF2 _).mono ?_; rintro e w2 ⟨rfl, rfl⟩))
  go_ret
  exact ⟨rfl, rfl⟩
set_option maxRecDepth 100000 in
set_option maxHeartbeats 1600000 in
theorem fix_sub_no (a b : Int) (ha : IFit a) (hb : IFit b) (hL : ¬ LenB (a - b)) (w : World) : Calls Try.prog 81 #[.int .i64 a, .int .i64 b] w fun e w' => e = .panicked (gave 2) ∧ w' = w := by
  have CA := fix_clipped a ha
  have CB := fix_clipped b hb
  have a1 := clip_lo a
  have a2 := clip_hi a
  have b1 := clip_lo b
  have b2 := clip_hi b
  have hSf : IFit (clip a - clip b) := by unfold IFit; omega
  by_cases hS : LenB (clip a - clip b)
  · have hD : IFit (a - b) := by unfold LenB clip at hS; unfold IFit at *; omega
    obtain ⟨A, eA⟩ : ∃ A, clip a = A := ⟨_, rfl⟩
    obtain ⟨B, eB⟩ : ∃ B, clip b = B := ⟨_, rfl⟩
    rw [eA] at CA hS hSf a1 a2
    rw [eB] at CB hS hSf b1 b2
    have OF1 := fix_of (A - B) hSf hS
    have OF2 := fix_of_no (a - b) hD hL
    obtain ⟨d1, d2⟩ := hD
    clear eA eB ha hb hL
    go_enter Try.func81, Try.ntmps81
    go_wp2_with (first
      | (go_at_call 87; with_reducible refine (CA _).mono ?_; rintro e w1 ⟨rfl, rfl⟩)
      | (go_at_call 87; with_reducible refine (CB _).mono ?_; rintro e w1 ⟨rfl, rfl⟩)
      | (go_at_call 56; with_reducible refine (OF1 _).mono ?_; rintro e w2 ⟨rfl, rfl⟩)
      | (go_at_call 56; with_reducible refine (OF2 _).mono ?_; rintro e w2 ⟨rfl, rfl⟩))
    simp [bodyPost]
  · obtain ⟨A, eA⟩ : ∃ A, clip a = A := ⟨_, rfl⟩
    obtain ⟨B, eB⟩ : ∃ B, clip b = B := ⟨_, rfl⟩
    rw [eA] at CA hS hSf a1 a2
    rw [eB] at CB hS hSf b1 b2
    have OF1 := fix_of_no (A - B) hSf hS
    clear eA eB ha hb hL
    go_enter Try.func81, Try.ntmps81
    go_wp2_with (first
      | (go_at_call 87; with_reducible refine (CA _).mono ?_; rintro e w1 ⟨rfl, rfl⟩)
      | (go_at_call 87; with_reducible refine (CB _).mono ?_; rintro e w1 ⟨rfl, rfl⟩)
      | (go_at_call 56; with_reducible refine (OF1 _).mono ?_; rintro e w2 ⟨rfl, rfl⟩))
    simp [bodyPost]
def lenE (x : Int) : Int := if lenB x then 0 else 2
def lenN (x : Int) : Int := if lenB x then x else 0
theorem lenN_no {x : Int} (h : lenE x ≠ 0) : lenN x = 0 := by
  unfold lenE at h
  unfold lenN
  cases hl : lenB x
  · rfl
  · rw [hl] at h; exact absurd rfl h
theorem fix_sub (a b : Int) (ha : IFit a) (hb : IFit b) (w : World) : Calls Try.prog 81 #[.int .i64 a, .int .i64 b] w (Gives (lenN (a - b)) (lenE (a - b)) w) := by
  unfold Gives lenN lenE
  cases hl : lenB (a - b)
  · exact (fix_sub_no a b ha hb (fun h => by rw [(lenB_iff _).2 h] at hl; cases hl) w).mono fun e w' h => ⟨fun h => by simp at h, fun _ => h.1, by rw [h.2]; exact Below.refl _ _⟩
  · exact (fix_sub_yes a b ha hb ((lenB_iff _).1 hl) w).mono fun e w' h => ⟨fun _ => h.1, fun h => by simp at h, by rw [h.2]; exact Below.refl _ _⟩
theorem fix_of_any (a : Int) (ha : IFit a) (w : World) : Calls Try.prog 56 #[.int .i64 a] w (Gives (lenN a) (lenE a) w) := by
  unfold Gives lenN lenE
  cases hl : lenB a
  · exact (fix_of_no a ha (fun h => by rw [(lenB_iff _).2 h] at hl; cases hl) w).mono fun e w' h => ⟨fun h => by simp at h, fun _ => h.1, by rw [h.2]; exact Below.refl _ _⟩
  · exact (fix_of a ha ((lenB_iff _).1 hl) w).mono fun e w' h => ⟨fun _ => h.1, fun h => by simp at h, by rw [h.2]; exact Below.refl _ _⟩
/-- The sum, each sum on the way a length. -/
def addP : Int → List Int → Option Int
  | s, [] => some s
  | s, x :: xs => if lenB (s + x) then addP (s + x) xs else none
theorem addS_eq : ∀ (xs : List Int) (s : Int), LenB s → addS s xs = addP s xs
  | [], s, _ => rfl
  | x :: xs, s, hs => by
    unfold addP
    by_cases h : LenB (s + clip x)
    · have e : clip x = x := by unfold LenB clip at *; omega
      rw [e] at h
      rw [addS_cons_yes (by rw [e]; exact h), e, if_pos ((lenB_iff _).2 h)]
      exact addS_eq xs _ h
    · have h2 : ¬ lenB (s + x) = true := fun h3 => h (by
        have h4 := (lenB_iff _).1 h3
        unfold LenB clip at *; omega)
      rw [addS_cons_no h, if_neg h2]
def addN (xs : List Int) : Int := (addP 0 xs).getD 0
def addE (xs : List Int) : Int := if (addP 0 xs).isSome then 0 else 2
theorem addN_no {xs : List Int} (h : addE xs ≠ 0) : addN xs = 0 := by
  unfold addE at h
  unfold addN
  cases hl : addP 0 xs
  · rfl
  · rw [hl] at h; exact absurd rfl h
theorem fix_add_any (g off k cap : Nat) (xs : List Int) (hk : k ≤ 1000000) (w : World) (hx : IntsAt w g off k xs) :
    Calls Try.prog 57 #[.slice (some ⟨g, off, none⟩) k cap] w (Gives (addN xs) (addE xs) w) := by
  refine (fix_add g off k cap xs _ hk rfl w hx).mono fun e w' h => ?_
  obtain ⟨h1, h2⟩ := h
  rw [addS_eq xs 0 (by unfold LenB; omega)] at h1
  unfold Gives addN addE
  rw [h2]
  cases hp : addP 0 xs <;> rw [hp] at h1
  · exact ⟨fun h => by simp at h, fun _ => h1, Below.refl _ _⟩
  · exact ⟨fun _ => h1, fun h => by simp at h, Below.refl _ _⟩
set_option maxRecDepth 100000 in
set_option maxHeartbeats 1600000 in
theorem fix_add_nil (w : World) : Calls Try.prog 57 #[.slice none 0 0] w (Gives (addN []) (addE []) w) := by
  have hP : Gives (addN []) (addE []) w (.returned (.int .i64 0)) w := ⟨fun _ => rfl, fun h => by simp [addE, addP] at h, Below.refl _ _⟩
  obtain ⟨G, eG⟩ : ∃ G, G = Gives (addN []) (addE []) w := ⟨_, rfl⟩
  rw [← eG] at hP ⊢
  have HP := Lib.hid hP
  clear hP eG
  go_enter Try.func57, Try.ntmps57
  go_wp2_with fail
  go_loopg [3, 8] 0 (fun gk s3 s8 wr => s3 = .int .i64 0 ∧ s8 = .int .i64 0 ∧ w = wr)
  case atStart => exact ⟨rfl, rfl, rfl⟩
  case round =>
    obtain ⟨rfl, rfl, rfl⟩ := hrel
    go_wp2_with fail
    exact HP.out
def heldC (b : Nat) (n : Int) : Cl := .own (fun _ w => ∃ neg ao k cap, Two w b (.bool neg) (.slice ao k cap) ∧ IsBig w neg ao k cap n) (fun _ _ _ h hb => by
  obtain ⟨a, b, c, d, t, i⟩ := h; exact ⟨a, b, c, d, t.below hb, i.keep hb⟩)
def AddRel (w : World) (b4 : Nat) (k : Nat) (xs : List Int) (r : Option Int) (gk : Nat) (s5 : Value) (wr : World) : Prop :=
  ∃ (j : Nat) (s : Int) (neg : Bool) (ao : Option Addr) (kk cap : Nat), j ≤ k ∧ gk = k - j ∧ s5 = .int .i64 ((j : Int)) ∧ Two wr b4 (.bool neg) (.slice ao kk cap) ∧ IsBig wr neg ao kk cap s ∧ lenB s = true ∧ addP s (xs.drop j) = r ∧ Below w.heap.size w wr
theorem len_sz {s : Int} (h : lenB s = true) : BM.Sz s 3 := by
  have := (lenB_iff s).1 h
  have e : (65536 : Nat) ^ 3 = 281474976710656 := by decide
  unfold LenB at this; unfold BM.Sz; omega
set_option maxRecDepth 100000 in
set_option maxHeartbeats 3200000 in
theorem ref4_add (g off k cap : Nat) (xs : List Int) (hk : k ≤ 1000000) (w : World) (hx : IntsAt w g off k xs) (hg : g < w.heap.size) :
    Calls Try.prog 58 #[.slice (some ⟨g, off, none⟩) k cap] w fun e w' => e = .returned (.tuple #[.int .i64 (addN xs), .int .i64 (addE xs)]) ∧ Below w.heap.size w w' := by
  obtain ⟨hl, hf, hc⟩ := hx
  have HL := Lib.hid hl
  have HF := Lib.hid hf
  have HC := Lib.hid hc
  obtain ⟨r, er⟩ : ∃ r, addP 0 xs = r := ⟨_, rfl⟩
  have eN : addN xs = r.getD 0 := by unfold addN; rw [er]
  have eE : addE xs = if r.isSome then 0 else 2 := by unfold addE; rw [er]
  rw [eN, eE]
  have HR := Lib.hid er
  clear hl hf hc er eN eE
  go_enter Try.func58, Try.ntmps58
  go_wp2_with fail
  refine (big_ofu 0 (by omega) _).mono ?_
  rintro e w1 ⟨a1, a2, a3, a4, rfl, I1, hB⟩
  have t := Two.new w1 (.bool a1) (.slice a2 a3 a4) _ rfl
  replace I1 := I1.keep (w' := w1.alloc (.cells #[.bool a1, .slice a2 a3 a4] 128)) (by repeat' (first | (with_reducible exact Below.refl _ _) | (with_reducible assumption) | (with_reducible refine below_alloc ?_ _ ?_) | (with_reducible refine below_set _ ?_ ?_) | (with_reducible refine Below.drew ?_) | (with_reducible refine below_dN ?_ _) | (apply below_thenA; assumption) | omega | (simp; done) | (simp; omega) | (simp [*]; done)))
  have hb4 : w.heap.size ≤ w1.heap.size := hB.size
  replace hB := hB.alloc hB.size (.cells #[.bool a1, .slice a2 a3 a4] 128)
  have HB := Lib.hid hB
  have HT := Lib.hid t
  have HI := Lib.hid I1
  clear hB t I1
  go_wp2_with fail
  go_loopg [5] k (fun gk s5 wr => AddRel w w1.heap.size k xs r gk s5 wr)
  case atStart => exact ⟨0, 0, a1, a2, a3, a4, by omega, by omega, rfl, HT.out, HI.out, rfl, HR.out, HB.out⟩
  case round =>
    clear HB HT HI HR
    obtain ⟨j, s, neg, ao, kk, cp, hj, rfl, rfl, t, I, hs, hd, hB⟩ := hrel
    have HD := Lib.hid hd
    clear hd
    have hkk := I.le (len_sz hs)
    by_cases hjk : j < k
    · have ix : (j : Int) < (k : Int) := by omega
      have hcx : wr.cell? ⟨g, off + j, none⟩ = _ := (hB.cell (p := ⟨g, off + j, none⟩) hg).trans (HC.out j hjk)
      have hfx := HF.out j hjk
      obtain ⟨x, ex⟩ : ∃ x, xs.getD j 0 = x := ⟨_, rfl⟩
      have ed : xs.drop j = x :: xs.drop (j + 1) := by
        have : j < xs.length := by rw [HL.out]; exact hjk
        rw [List.drop_eq_getElem_cons this, ← ex]; simp [List.getD, this]
      rw [ex] at hcx hfx
      have HE := Lib.hid ed
      clear ed ex
      have hs' := hs
      have hcx0 : w.cell? ⟨g, off + j, none⟩ = some (.int .i64 x) := (hB.cell (p := ⟨g, off + j, none⟩) hg).symm.trans hcx
      have hlt := t.lt
      have sx := BM.Sz.i64 hfx.1 hfx.2
      have ssx := BM.Sz.add ((len_sz hs').mono (k := 4) (by omega)) sx
      obtain ⟨x1, x2⟩ := hfx
      have hbx := hg
      go_upto_region 5 with (fail)
      rename_i K0 hK0
      refine wp_region_calm (fun w' => Below w.heap.size w w') [7] (fun w' => Two w' w1.heap.size (.bool neg) (.slice ao kk cp) ∧ IsBig w' neg ao kk cp s) [bigC s, Is (.slice (some ⟨g, off, none⟩) k cap), Is (.int .i64 ((j : Int))), Is (.pointer (some ⟨g, off + j, none⟩)), Is (.int .i64 x), bigC x, bigC (s + x), heldC w1.heap.size (s + x)] [] (by kernel_rfl) (by kernel_rfl) (by kernel_rfl) (by kernel_rfl) hB.drew ⟨t, I.drewd⟩ ?_ ?_ ?_ ?_ ?_
      · rintro W W' hB hb
        exact hB.trans (hb.mono hB.size)
      · intro W W' hB h0 hb; exact ⟨h0.1.below hb, h0.2.keep hb⟩
      · intro k vs W hk h
        exact absurd hk (by simp)
      · intro Q; clear hK0 t I
        refine ⟨?_, ?_, ?_, ?_, ?_, ?_, ?_, ?_, trivial⟩
        · intro vs W hW hW0 hd hne hold K hK hA hL; clear hne hA hL; have hB := hW; simp only [puts, Act.put, List.setIfInBounds_toArray, List.set_cons_zero, List.set_cons_succ, Nat.zero_add, Nat.reduceAdd] at hK ⊢; have h0 := hW0 (by kernel_rfl); have q := (h0.1).cells; have q1 := q.1; have q2 := q.2.1; clear hd hold; go_simp; exact hK.out rfl _ _ (Below.refl _ _) ⟨neg, ao, kk, cp, rfl, h0.2⟩
        · intro vs W hW hW0 hd hne hold K hK hA hL; clear hne hA hL; have hB := hW; simp only [puts, Act.put, List.setIfInBounds_toArray, List.set_cons_zero, List.set_cons_succ, Nat.zero_add, Nat.reduceAdd] at hK ⊢; clear hd hold; go_simp; exact hK.out rfl _ _ (Below.refl _ _) rfl
        · intro vs W hW hW0 hd hne hold K hK hA hL; clear hne hA hL; have hB := hW; simp only [puts, Act.put, List.setIfInBounds_toArray, List.set_cons_zero, List.set_cons_succ, Nat.zero_add, Nat.reduceAdd] at hK ⊢; clear hd hold; go_simp; exact hK.out rfl _ _ (Below.refl _ _) rfl
        · intro vs W hW hW0 hd hne hold K hK hA hL; clear hne hA hL; have hB := hW; simp only [puts, Act.put, List.setIfInBounds_toArray, List.set_cons_zero, List.set_cons_succ, Nat.zero_add, Nat.reduceAdd] at hK ⊢; have e1 : vs 1 = _ := hd 1 (by kernel_rfl); have e2 : vs 2 = _ := hd 2 (by kernel_rfl); clear hd hold; simp only [e1, e2] at hK; go_simp; exact hK.out rfl _ _ (Below.refl _ _) rfl
        · have hcw : ∀ W, Below w.heap.size w W → W.cell? ⟨g, off + j, none⟩ = some (.int .i64 x) := fun W h => (h.cell (p := ⟨g, off + j, none⟩) hg).trans hcx0; intro vs W hW hW0 hd hne hold K hK hA hL; clear hne hA hL; have hB := hW; simp only [puts, Act.put, List.setIfInBounds_toArray, List.set_cons_zero, List.set_cons_succ, Nat.zero_add, Nat.reduceAdd] at hK ⊢; have hcy := hcw _ hB; have eb : vs 3 = _ := hd 3 (by kernel_rfl); clear hd hold; simp only [eb] at hK; go_simp; exact hK.out rfl _ _ (Below.refl _ _) rfl
        · intro vs W hW hW0 hd hne hold K hK hA hL; clear hne hA hL; have hB := hW; simp only [puts, Act.put, List.setIfInBounds_toArray, List.set_cons_zero, List.set_cons_succ, Nat.zero_add, Nat.reduceAdd] at hK ⊢; have eb : vs 4 = _ := hd 4 (by kernel_rfl); clear hd hold; simp only [eb] at hK; go_simp; refine (big_of x x1 x2 _).mono ?_; (rintro e wx ⟨f1, f2, f3, f4, rfl, If, hbx⟩); go_simp; exact hK.out rfl _ _ hbx ⟨f1, f2, f3, f4, rfl, If⟩
        · intro vs W hW hW0 hd hne hold K hK hA hL; clear hne hA hL; have hB := hW; simp only [puts, Act.put, List.setIfInBounds_toArray, List.set_cons_zero, List.set_cons_succ, Nat.zero_add, Nat.reduceAdd] at hK ⊢; (have hxb : BigV s (vs 0) W := hd 0 (by kernel_rfl)); obtain ⟨b1, b2, b3, b4, eb, Ib⟩ := hxb; (have hxc : BigV x (vs 5) W := hd 5 (by kernel_rfl)); obtain ⟨c1, c2, c3, c4, ec, Ic⟩ := hxc; have k2 := Ib.le (len_sz hs'); have k3 := Ic.le sx; clear hd hold; simp only [eb, ec] at hK; go_simp; refine (big_plus b1 c1 b2 c2 b3 c3 b4 c4 s x _ Ib Ic (by omega) (by omega)).mono ?_; (rintro e wx ⟨f1, f2, f3, f4, rfl, If, hbx⟩); go_simp; exact hK.out rfl _ _ hbx ⟨f1, f2, f3, f4, rfl, If⟩
        · intro vs W hW hW0 hd hne hold K hK hA hL; clear hK hA; have hB := hW; simp only [puts, Act.put, List.setIfInBounds_toArray, List.set_cons_zero, List.set_cons_succ, Nat.zero_add, Nat.reduceAdd] at hL ⊢; have h0 := hW0 (by kernel_rfl); have T := h0.1; (have hxc : BigV (s + x) (vs 6) W := hd 6 (by kernel_rfl)); obtain ⟨c1, c2, c3, c4, ec, Ic⟩ := hxc; have q := T.cells; have q1 := q.1; have q2 := q.2.1; have q3 := q.2.2.1; have q4 := q.2.2.2; clear hd hold; simp only [ec] at hL; go_simp; refine hL.out rfl undef _ (BP hB hb4 _ _) (fun h => absurd h (by decide)) ⟨c1, c2, c3, c4, T.put _ _, IsBig.put Ic T _ _⟩ ?_; exact claims_keep ⟨.inr fun h => BigV.put h T _ _, .inr is_keep, .inr is_keep, .inr is_keep, .inr is_keep, .inr fun h => BigV.put h T _ _, .inr fun h => BigV.put h T _ _, .inl rfl, trivial⟩
      · intro va WA hB hV _
        have h7 : ∃ neg ao k cap, Two WA w1.heap.size (.bool neg) (.slice ao k cap) ∧ IsBig WA neg ao k cap (s + x) := hV 7 (by decide)
        obtain ⟨n5, x5, k5, c5, t5, I5⟩ := h7
        clear hV
        simp only [puts, Act.put, List.setIfInBounds_toArray, List.set_cons_zero, List.set_cons_succ, Nat.zero_add, Nat.reduceAdd]
        refine hK0 _ _ ?_
        clear hK0 t I
        have hk5 := I5.le ssx
        have q := t5.cells
        have q1 := q.1
        have q2 := q.2.1
        clear q
        have LN := ref_length n5 x5 k5 c5 (s + x) WA I5 (by omega)
        cases hn : lenB (s + x)
        · have hr : r = none := by
            have := HD.out
            rw [HE.out] at this
            unfold addP at this
            rw [hn] at this
            exact this.symm
          rw [hn] at LN
          subst hr
          clear hn
          go_wp2_with fail
          refine LN.mono ?_
          rintro e w5 ⟨rfl, hb5⟩
          replace hB := hB.trans (hb5.mono hB.size)
          go_wp2_with fail
          go_ret2
          exact ⟨rfl, hB⟩
        · have hd2 : addP (s + x) (xs.drop (j + 1)) = r := by
            have := HD.out
            rw [HE.out] at this
            unfold addP at this
            rw [hn] at this
            exact this
          rw [hn] at LN
          have HN := Lib.hid hn
          have HD2 := Lib.hid hd2
          clear hn hd2
          go_wp2_with fail
          refine LN.mono ?_
          rintro e w5 ⟨rfl, hb5⟩
          replace hB := hB.trans (hb5.mono hB.size)
          replace t5 := t5.below hb5
          replace I5 := I5.keep hb5
          clear q1 q2 hb5
          go_wp2_with fail
          go_roundg (k - (j + 1))
          case measure => omega
          case rel => exact ⟨j + 1, s + x, n5, x5, k5, c5, by omega, rfl, by go_num, t5, I5, HN.out, HD2.out, hB⟩
    · obtain rfl : j = k := by omega
      have ix : ¬ (j : Int) < (j : Int) := by omega
      have hr : r = some s := by have := HD.out; rw [List.drop_eq_nil_of_le (by rw [HL.out]; omega)] at this; exact this.symm
      subst hr
      have q := t.cells
      have q1 := q.1
      have q2 := q.2.1
      clear q
      have TL := ref_told neg ao kk cp s wr I (by omega)
      rw [hs] at TL
      clear hs
      go_wp2_with fail
      refine TL.mono ?_
      rintro e w5 ⟨rfl, hb5⟩
      replace hB := hB.trans (hb5.mono hB.size)
      go_wp2_with fail
      go_ret2
      exact ⟨rfl, hB⟩
/-- Told, by the number. -/
theorem told_n (neg : Bool) (ao : Option Addr) (k cap : Nat) (X : Int) (w : World) (h : IsBig w neg ao k cap X) {K : Nat} (hX : BM.Sz X K) (hK : K ≤ 100000) :
    Calls Try.prog 92 #[.agg #[.bool neg, .slice ao k cap]] w fun e w' => e = .returned (.tuple #[.int .i64 (lenN X), .int .i64 (lenE X)]) ∧ Below w.heap.size w w' := by
  have := h.le hX
  exact ref_told neg ao k cap X w h (by omega)
end Go.Proofs.Ythofammjbicogaa
namespace Go.Proofs.Ythofammjbicogaa
open Go.RowKit
set_option linter.unusedSimpArgs false
set_option linter.unusedVariables false

theorem Blk.same {w : World} {b : Nat} {cs cs' : Array Value} {T T' : TypeId} (h : Blk w b cs T) (h' : Blk w b cs' T') : cs = cs' ∧ T = T' := by
  unfold Blk at h h'
  rw [h] at h'
  simpa using h'
theorem Blk.cellx {w : World} {b : Nat} {cs : Array Value} {T : TypeId} (h : Blk w b cs T) (i : Nat) (hi : i < cs.size) : ∃ y, w.cell? ⟨b, i, none⟩ = some y := ⟨cs[i], h.cell i _ (by simp [hi])⟩
theorem Blk.set1 {w : World} {b : Nat} {cs : Array Value} {T : TypeId} (h : Blk w b cs T) (hs : cs.size = 1) (u : Value) : Blk (w.setCell ⟨b, 0, none⟩ u) b #[u] T := by
  have h1 := h.set 0 u
  have e : cs.setIfInBounds 0 u = #[u] := by
    obtain ⟨l⟩ := cs
    match l, hs with
    | [_], _ => rfl
  rwa [e] at h1
theorem Blk.set2 {w : World} {b : Nat} {cs : Array Value} {T : TypeId} (h : Blk w b cs T) (hs : cs.size = 2) (u v : Value) : Blk ((w.setCell ⟨b, 0, none⟩ u).setCell ⟨b, 1, none⟩ v) b #[u, v] T := by
  have h1 := (h.set 0 u).set 1 v
  have e : (cs.setIfInBounds 0 u).setIfInBounds 1 v = #[u, v] := by
    obtain ⟨l⟩ := cs
    match l, hs with
    | [_, _], _ => rfl
  rwa [e] at h1
theorem Blk.set3 {w : World} {b : Nat} {cs : Array Value} {T : TypeId} (h : Blk w b cs T) (hs : cs.size = 3) (u v x : Value) : Blk (((w.setCell ⟨b, 0, none⟩ u).setCell ⟨b, 1, none⟩ v).setCell ⟨b, 2, none⟩ x) b #[u, v, x] T := by
  have h1 := ((h.set 0 u).set 1 v).set 2 x
  have e : ((cs.setIfInBounds 0 u).setIfInBounds 1 v).setIfInBounds 2 x = #[u, v, x] := by
    obtain ⟨l⟩ := cs
    match l, hs with
    | [_, _, _], _ => rfl
  rwa [e] at h1
theorem But.set2 {b : Nat} (w : World) (u v : Value) : But b w ((w.setCell ⟨b, 0, none⟩ u).setCell ⟨b, 1, none⟩ v) := (But.set _ _ _).trans (But.set _ _ _)
theorem But.set3 {b : Nat} (w : World) (u v x : Value) : But b w (((w.setCell ⟨b, 0, none⟩ u).setCell ⟨b, 1, none⟩ v).setCell ⟨b, 2, none⟩ x) := ((But.set _ _ _).trans (But.set _ _ _)).trans (But.set _ _ _)
/-- A new box, whatever it holds; a new box that holds these cells. -/
def BxV (B : Nat) (T : TypeId) (n : Nat) (v : Value) (w : World) : Prop := ∃ b cs, v = .pointer (some ⟨b, 0, none⟩) ∧ B ≤ b ∧ Blk w b cs T ∧ cs.size = n
def BxC (B : Nat) (T : TypeId) (cs : Array Value) (v : Value) (w : World) : Prop := ∃ b, v = .pointer (some ⟨b, 0, none⟩) ∧ B ≤ b ∧ Blk w b cs T
theorem BxV.below {B n : Nat} {T : TypeId} {v : Value} {w w' : World} (h : BxV B T n v w) (hb : Below w.heap.size w w') : BxV B T n v w' := by
  obtain ⟨b, cs, e, h1, h2, h3⟩ := h; exact ⟨b, cs, e, h1, h2.below hb, h3⟩
theorem BxC.below {B : Nat} {T : TypeId} {cs : Array Value} {v : Value} {w w' : World} (h : BxC B T cs v w) (hb : Below w.heap.size w w') : BxC B T cs v w' := by
  obtain ⟨b, e, h1, h2⟩ := h; exact ⟨b, e, h1, h2.below hb⟩
def bxV (B : Nat) (T : TypeId) (n : Nat) : Cl := .own (BxV B T n) (fun _ _ _ h hb => h.below hb)
def bxC (j B : Nat) (T : TypeId) (cs : Array Value) : Cl := .at j (BxC B T cs) (fun _ _ _ h hb => h.below hb)
section
variable {w w' : World} {b : Nat} {cs0 cs1 : Array Value} {T0 : TypeId}
theorem BxV.but {B n : Nat} {T : TypeId} {v : Value} (h : BxV B T n v w) (hb : But b w w') (t0 : Blk w b cs0 T0) (t1 : Blk w' b cs1 T0) (hs : cs1.size = cs0.size) : BxV B T n v w' := by
  obtain ⟨c, cs, e, h1, h2, h3⟩ := h
  by_cases hc : c = b
  · subst hc
    obtain ⟨rfl, rfl⟩ := h2.same t0
    exact ⟨c, cs1, e, h1, t1, by rw [hs, h3]⟩
  · exact ⟨c, cs, e, h1, h2.but hb hc, h3⟩
theorem BxC.but {B : Nat} {T : TypeId} {cs : Array Value} {v : Value} (h : BxC B T cs v w) (hb : But b w w') (hne : v ≠ .pointer (some ⟨b, 0, none⟩)) : BxC B T cs v w' := by
  obtain ⟨c, e, h1, h2⟩ := h
  exact ⟨c, e, h1, h2.but hb (fun x => hne (by rw [e, x]))⟩
theorem keeps_but (hb : But b w w') (t0 : Blk w b cs0 T0) (hT : T0 ≠ 130) : Keeps w w' := by
  intro g cur hg
  have hne : g ≠ b := by
    rintro rfl
    exact hT (Blk.same (T := 130) (cs := cur) hg t0).2.symm
  exact (hb.block g (Array.getElem?_eq_some_iff.1 hg).1 hne).trans hg
theorem IsBig.but {neg : Bool} {ao : Option Addr} {k cap : Nat} {n : Int} (h : IsBig w neg ao k cap n) (hb : But b w w') (t0 : Blk w b cs0 T0) (hT : T0 ≠ 130) : IsBig w' neg ao k cap n := h.keeps (keeps_but hb t0 hT)
theorem BigV.but {n : Int} {v : Value} (h : BigV n v w) (hb : But b w w') (t0 : Blk w b cs0 T0) (hT : T0 ≠ 130) : BigV n v w' := by
  obtain ⟨a1, a2, a3, a4, e, h⟩ := h; exact ⟨a1, a2, a3, a4, e, h.but hb t0 hT⟩
theorem Big2V.but {n p : Int} {v : Value} (h : Big2V n p v w) (hb : But b w w') (t0 : Blk w b cs0 T0) (hT : T0 ≠ 130) : Big2V n p v w' := by
  obtain ⟨a1, a2, a3, a4, b1, b2, b3, b4, e, h, g⟩ := h; exact ⟨a1, a2, a3, a4, b1, b2, b3, b4, e, h.but hb t0 hT, g.but hb t0 hT⟩
/-- A new box that holds a whole number. -/
theorem BoxBig.but {B : Nat} {n : Int} {v : Value} (h : BoxBig B n v w) (hb : But b w w') (t0 : Blk w b cs0 T0) (hT : T0 ≠ 130) (hne : v ≠ .pointer (some ⟨b, 0, none⟩)) : BoxBig B n v w' := by
  obtain ⟨c, a1, a2, a3, a4, e, h1, h2, h3⟩ := h
  exact ⟨c, a1, a2, a3, a4, e, h1, Blk.but (cs := #[.bool a1, .slice a2 a3 a4]) h2 hb (fun x => hne (by rw [e, x])), h3.but hb t0 hT⟩
end
end Go.Proofs.Ythofammjbicogaa
namespace Go.Proofs.Ythofammjbicogaa
open Go.RowKit
set_option linter.unusedSimpArgs false
set_option linter.unusedVariables false

theorem RowI.but {w w' : World} {b : Nat} {ao : Option Addr} {k : Nat} {xs : List Int} (h : RowI w ao k xs) (hb : But b w w') (hne : ∀ g off, ao = some ⟨g, off, none⟩ → g ≠ b) : RowI w' ao k xs := by
  refine ⟨h.1, fun hk => ?_⟩
  obtain ⟨g, off, e, hg, hc⟩ := h.2 hk
  exact ⟨g, off, e, Nat.lt_of_lt_of_le hg hb.size, fun i hi => (World.cell?_of_block (w := w) (a := ⟨g, off + i, none⟩) (hb.block g hg (hne g off e))).trans (hc i hi)⟩
theorem OwnI.from {w : World} {B : Nat} {ao : Option Addr} {k cap : Nat} {xs : List Int} (h : OwnI w B ao k cap xs) : ∀ g off, ao = some ⟨g, off, none⟩ → B ≤ g := fun g off e => by
  subst e
  exact (h.ge (g := g) (by simp [Value.ownBlock])).1
theorem partsN_zero (t : Int) (xs : List Int) : ∀ n, partsN t 0 xs n = List.replicate n 0
  | 0 => rfl
  | n + 1 => by
    rw [partsN_succ, partsN_zero t xs n, List.replicate_succ']
    unfold shareAt
    simp
def splC (t : Int) (xs : List Int) (k : Nat) : Int := if lenB t then allE xs k else 2
def SplOut (t : Int) (xs : List Int) (k bo : Nat) (W W' : World) : Prop :=
  ∃ ao' cap', Blk W' bo #[.slice ao' k cap'] 31 ∧ RowI W' ao' k (partsN t (pre xs k) xs k) ∧ k ≤ cap' ∧ cap' ≤ maxLen ∧ ∀ g off, ao' = some ⟨g, off, none⟩ → W.heap.size ≤ g
def SplAns1 (t : Int) (xs : List Int) (k bo : Nat) (W : World) (e : Ending) (W' : World) : Prop :=
  (splC t xs k = 0 → e = .returned (.tuple #[]) ∧ SplOut t xs k bo W W') ∧ (splC t xs k ≠ 0 → e = .panicked (gave (splC t xs k))) ∧ But bo W W'
set_option maxRecDepth 100000 in
set_option maxHeartbeats 3200000 in
theorem split1 (t : Int) (ao : Option Addr) (k cap : Nat) (xs : List Int) (bt bw bo : Nat) (hk2 : k ≤ 1000000) (ht : IFit t) (hn : Nonneg xs) (hf : Fits xs) (W : World) (hx : RowI W ao k xs)
    (h1 : Blk W bt #[.int .i64 t] 2) (h2 : Blk W bw #[.slice ao k cap] 31) (h3 : Blk W bo #[.slice none 0 0] 31) :
    Calls Try.prog 112 #[.pointer (some ⟨bt, 0, none⟩), .pointer (some ⟨bw, 0, none⟩), .pointer (some ⟨bo, 0, none⟩)] W (SplAns1 t xs k bo W) := by
  obtain ⟨i0, hi, hz0, hz1, hz2⟩ := info_parts (show (Try.prog.info? 2).map (fun i => (i.zero, i.size, i.bytes)) = some (some (.int .i64 0), 1, 8) by kernel_rfl)
  obtain ⟨Q, eQ⟩ : ∃ Q, Q = SplAns1 t xs k bo W := ⟨_, rfl⟩
  rw [← eQ]
  have EQ := Lib.hid eQ
  have OF := fun W => fix_of_any t ht W
  have AL := fun W' hx => sh_all ao k cap xs hk2 hn hf W' hx
  have c0 := h1.cell 0 _ rfl
  have HN := Lib.hid hn
  have hlo := h3.lt
  clear eQ hn hf
  cases hl : lenB t
  · have O2 := fun W => (OF W).mono fun e w' h => (⟨h.2.1 (by unfold lenE; rw [hl]; decide), h.2.2⟩ : _ ∧ _)
    have ec : splC t xs k = 2 := by unfold splC; rw [hl]; rfl
    have ee : lenE t = 2 := by unfold lenE; rw [hl]; rfl
    rw [ee] at O2
    have EC := Lib.hid ec
    clear OF AL hl ec ee
    go_enter Try.func112, Try.ntmps112
    go_wp2_with fail
    refine (O2 _).mono ?_
    rintro e w1 ⟨rfl, hb⟩
    go_wp2_with fail
    simp only [bodyPost]
    rw [EQ.out]
    unfold SplAns1
    rw [EC.out]
    exact ⟨trivial, (fun h => absurd h (by decide)), (fun _ => rfl), But.of hb⟩
  · have O2 := fun W => (OF W).mono fun e w' h => (⟨h.1 (by unfold lenE; rw [hl]; rfl), h.2.2⟩ : _ ∧ _)
    have ec : splC t xs k = allE xs k := by unfold splC; rw [hl]; rfl
    have hL := (lenB_iff t).1 hl
    have EC := Lib.hid ec
    have HL := Lib.hid hL
    clear OF hl ec hL
    by_cases hS : pre xs k ≤ 4611686018427387904
    · have e1 : allE xs k = 0 := by unfold allE; rw [if_pos hS]
      have e2 : allN xs k = pre xs k := by unfold allN; rw [if_pos hS]
      have A2 := fun W' hx => (AL W' hx).mono fun e w' h => (⟨h.1 e1, h.2.2⟩ : _ ∧ _)
      rw [e2] at A2
      have hp0 := pre_nonneg HN.out k
      have PT := fun W' hx (h0 : 0 < pre xs k) => sh_parts t (pre xs k) ao k cap xs hk2 HN.out HL.out (Int.le_refl _) h0 hS W' hx
      obtain ⟨S, eS⟩ : ∃ S, pre xs k = S := ⟨_, rfl⟩
      rw [eS] at A2 PT hp0 hS
      have ES := Lib.hid eS
      have E1 := Lib.hid e1
      clear AL e1 e2 eS
      go_enter Try.func112, Try.ntmps112
      go_wp2_with fail
      refine (O2 _).mono ?_
      rintro e w1 ⟨rfl, hb⟩
      have hB := hb
      replace h1 := h1.below hb
      replace h2 := h2.below hb
      replace h3 := h3.below hb
      replace hx := hx.below hb
      clear hb c0
      have c0 := h2.cell 0 _ rfl
      go_wp2_with fail
      refine (A2 _ hx).mono ?_
      rintro e w2 ⟨rfl, hb⟩
      replace hB := hB.trans (hb.mono hB.size)
      replace h1 := h1.below hb
      replace h2 := h2.below hb
      replace h3 := h3.below hb
      replace hx := hx.below hb
      clear hb c0 A2 O2
      have hsz := hB.size
      have c0 := h1.cell 0 _ rfl
      have c1 := h2.cell 0 _ rfl
      have c2 := h3.cell 0 _ rfl
      have f2 := h3.free 0
      by_cases hS0 : S = 0
      · have HS0 := Lib.hid hS0
        subst hS0
        clear PT
        go_wp2_with (at_make; refine wpList_make_full _ rfl _ _ 31 rfl W.heap.size 2 i0 (.int .i64 0) 1 Try.underlying31 hi hz0 hz1 _ _ _ _ k rfl rfl rfl rfl ?b2 ?b3 ?b4 ?_)
        case b2 => rw [hz2]; omega
        case b3 => unfold maxLen; omega
        case b4 => exact hsz
        intro w3 hown hg
        have hb : Below w2.heap.size w2 w3 := (Below.refl _ _).grown hg (Nat.le_refl _) (fun _ h => by cases h)
        have ho : OwnI w3 W.heap.size (some ⟨w2.heap.size, 0, none⟩) k k (List.replicate k 0) := by
          refine ⟨?_, by simp⟩
          have : i64s (List.replicate k 0) = (madeCells #[.int .i64 0] k).toList := by
            rw [toList_madeCells_one]
            simp [i64s]
          rw [this]; exact hown
        replace hB := hB.trans (hb.mono hsz)
        replace h3 := h3.below hb
        clear hown hg hb c2 f2
        have c2 := h3.cell 0 _ rfl
        have f2 := h3.free 0
        go_wp2_with fail
        go_end0
        rw [EQ.out]
        have hbt := (But.of (b := bo) hB).trans (But.set (b := bo) w3 0 (.slice (some ⟨w2.heap.size, 0, none⟩) k k))
        refine ⟨fun _ => ⟨rfl, some ⟨w2.heap.size, 0, none⟩, k, h3.set 0 _, ?_, Nat.le_refl _, by unfold maxLen; omega, ?_⟩, fun h => absurd (EC.out.trans E1.out) h, hbt⟩
        · rw [ES.out, partsN_zero]
          refine ho.row.but (But.set _ _ _) (fun g off e => ?_)
          have := ho.from g off e
          omega
        · intro g off e
          exact ho.from g off e
      · have hS1 : 0 < S := by omega
        have P2 := fun W' hx => PT W' hx hS1
        clear PT
        go_wp2_with fail
        refine (P2 _ hx).mono ?_
        rintro e w3 ⟨ao', cap', rfl, ho, hb⟩
        replace hB := hB.trans (hb.mono hsz)
        replace h3 := h3.below hb
        clear hb c0 c1 c2 f2 P2
        have c2 := h3.cell 0 _ rfl
        have f2 := h3.free 0
        have hsh := ho.shape
        go_wp2_with fail
        go_end0
        rw [EQ.out]
        have hbt := (But.of (b := bo) hB).trans (But.set (b := bo) w3 0 (.slice ao' k cap'))
        refine ⟨fun _ => ⟨rfl, ao', cap', h3.set 0 _, ?_, hsh.1, hsh.2, ?_⟩, fun h => absurd (EC.out.trans E1.out) h, hbt⟩
        · rw [ES.out]
          refine ho.row.but (But.set _ _ _) (fun g off e => ?_)
          have := ho.from g off e
          omega
        · intro g off e
          exact Nat.le_trans hsz (ho.from g off e)
    · have e1 : allE xs k = 2 := by unfold allE; rw [if_neg hS]
      have A2 := fun W' hx => (AL W' hx).mono fun e w' h => (⟨h.2.1 (by rw [e1]; decide), h.2.2⟩ : _ ∧ _)
      rw [e1] at A2
      have E1 := Lib.hid e1
      clear AL e1 hS
      go_enter Try.func112, Try.ntmps112
      go_wp2_with fail
      refine (O2 _).mono ?_
      rintro e w1 ⟨rfl, hb⟩
      have hB := hb
      replace h2 := h2.below hb
      replace hx := hx.below hb
      clear hb c0
      have c0 := h2.cell 0 _ rfl
      go_wp2_with fail
      refine (A2 _ hx).mono ?_
      rintro e w2 ⟨rfl, hb⟩
      go_wp2_with fail
      simp only [bodyPost]
      rw [EQ.out]
      unfold SplAns1
      rw [EC.out, E1.out]
      exact ⟨trivial, (fun h => absurd h (by decide)), (fun _ => rfl), But.of (hB.trans (hb.mono hB.size))⟩
theorem try_split (t : Int) (ao : Option Addr) (k cap : Nat) (xs : List Int) (bt bw bo : Nat) (hk2 : k ≤ 1000000) (ht : IFit t) (hn : Nonneg xs) (hf : Fits xs) (w : World) (hx : RowI w ao k xs)
    (h1 : Blk w bt #[.int .i64 t] 2) (h2 : Blk w bw #[.slice ao k cap] 31) (h3 : Blk w bo #[.slice none 0 0] 31) :
    Calls Try.prog 16 #[.func (.func 112) #[] #[.pointer (some ⟨bt, 0, none⟩), .pointer (some ⟨bw, 0, none⟩), .pointer (some ⟨bo, 0, none⟩)]] w fun e w' =>
      e = .returned (.int .i64 (splC t xs k)) ∧ (splC t xs k = 0 → SplOut t xs k bo w w') ∧ But bo w w' := by
  have hlo := h3.lt
  have hb0 : Below w.heap.size w (w.alloc (.cells #[.int .i64 0] 32)) := (by repeat' (first | (with_reducible exact Below.refl _ _) | (with_reducible assumption) | (with_reducible refine below_alloc ?_ _ ?_) | (with_reducible refine below_set _ ?_ ?_) | (with_reducible refine Below.drew ?_) | (with_reducible refine below_dN ?_ _) | (apply below_thenA; assumption) | omega | (simp; done) | (simp; omega) | (simp [*]; done)))
  have o1 : Blk (w.alloc (.cells #[.int .i64 0] 32)) w.heap.size #[.int .i64 0] 32 := Blk.new w _ _ _ rfl
  refine (fix_try 112 _ w (fun c' w1 => c' = splC t xs k ∧ (splC t xs k = 0 → SplOut t xs k bo (w.alloc (.cells #[.int .i64 0] 32)) w1) ∧ But bo (w.alloc (.cells #[.int .i64 0] 32)) w1)
    (fun w => enters_of Try.func112 (by kernel_rfl) rfl _ w)
    ((split1 t ao k cap xs bt bw bo hk2 ht hn hf _ (hx.below hb0) (h1.below hb0) (h2.below hb0) (h3.below hb0)).mono fun e w1 x => ?_)).mono fun e w' x => ?_
  · obtain ⟨x1, x2, x3⟩ := x
    have o3 := o1.but x3 (by omega)
    refine ⟨o3.cell 0 _ rfl, o3.free 0, ?_⟩
    by_cases hc : splC t xs k = 0
    · exact .inl ⟨(x1 hc).1, hc.symm, fun _ => (x1 hc).2, x3⟩
    · exact .inr ⟨splC t xs k, x2 hc, rfl, fun h => absurd h hc, x3⟩
  · obtain ⟨c', w1, ⟨rfl, x1, x3⟩, rfl, rfl⟩ := x
    refine ⟨rfl, fun hc => ?_, ((But.of hb0).trans x3).setNew (Nat.le_refl _) _ _⟩
    obtain ⟨ao', cap', b1, b2, b3, b4, b5⟩ := x1 hc
    have hs : (w.alloc (.cells #[.int .i64 0] 32)).heap.size = w.heap.size + 1 := by simp
    refine ⟨ao', cap', b1.other (by omega) _ _, b2.but (But.set _ _ _) (fun g off e => ?_), b3, b4, fun g off e => ?_⟩
    · have := b5 g off e; omega
    · have := b5 g off e; omega
/-- What Split answers: the parts, or an error. -/
def negB (xs : List Int) (k : Nat) : Bool := decide (0 < k ∧ minK xs (k - 1) < 0)
def shE (t : Int) (xs : List Int) (k : Nat) : Int := if 1024 < k then 8 else if negB xs k then 1 else splC t xs k
def SplitAns (t : Int) (xs : List Int) (k : Nat) (w : World) (e : Ending) (w' : World) : Prop :=
  ∃ ao m cap ys, e = .returned (.tuple #[.slice ao m cap, .int .i64 (shE t xs k)]) ∧ RowI w' ao m ys ∧ m ≤ cap ∧ (cap ≤ maxLen ∧ ∀ g off, ao = some ⟨g, off, none⟩ → w.heap.size ≤ g) ∧ (shE t xs k = 0 → m = k ∧ ys = partsN t (pre xs k) xs k) ∧ (shE t xs k ≠ 0 → m = 0 ∧ ys = []) ∧ Below w.heap.size w w'
theorem nonneg_of {xs : List Int} {k : Nat} (hl : xs.length = k) (h : negB xs k = false) : Nonneg xs := by
  intro i
  by_cases hi : i < k
  · unfold negB at h
    rw [decide_eq_false_iff_not] at h
    have h1 : ¬ minK xs (k - 1) < 0 := fun x => h ⟨by omega, x⟩
    rw [minK_neg] at h1
    have : ¬ xs.getD i 0 < 0 := fun x => h1 ⟨i, by omega, x⟩
    omega
  · simp only [List.getD]
    rw [List.getElem?_eq_none (by omega)]
    simp
set_option maxRecDepth 100000 in
set_option maxHeartbeats 3200000 in
theorem sh_split (t : Int) (ao : Option Addr) (k cap : Nat) (xs : List Int) (hk2 : k ≤ 1000000) (ht : IFit t) (hf : Fits xs) (w : World) (hx : RowI w ao k xs) :
    Calls Try.prog 102 #[.int .i64 t, .slice ao k cap] w (SplitAns t xs k w) := by
  have hmf : ∀ (fn : Fn) (first cap : Array Value) (w : World), (Instr.makeFunc fn first cap).run Try.prog w = .ok (.func fn first cap) w := fun _ _ _ _ => rfl
  obtain ⟨Q, eQ⟩ : ∃ Q, Q = SplitAns t xs k w := ⟨_, rfl⟩
  rw [← eQ]
  have EQ := Lib.hid eQ
  clear eQ
  have h1 := (Blk.new w #[.int .i64 t] 2 _ rfl).alloc (.cells #[.slice ao k cap] 31)
  have h2 := Blk.new (w.alloc (.cells #[.int .i64 t] 2)) #[.slice ao k cap] 31 (w.heap.size + 1) (by simp)
  have hB : Below w.heap.size w ((w.alloc (.cells #[.int .i64 t] 2)).alloc (.cells #[.slice ao k cap] 31)) := (by repeat' (first | (with_reducible exact Below.refl _ _) | (with_reducible assumption) | (with_reducible refine below_alloc ?_ _ ?_) | (with_reducible refine below_set _ ?_ ?_) | (with_reducible refine Below.drew ?_) | (with_reducible refine below_dN ?_ _) | (apply below_thenA; assumption) | omega | (simp; done) | (simp; omega) | (simp [*]; done)))
  have hxA := hx.below hB
  by_cases hk : 1024 < k
  · have hE : shE t xs k = 8 := by unfold shE; rw [if_pos hk]
    have HE := Lib.hid hE
    have ix : (1024 : Int) < (k : Int) := by omega
    clear hE hk
    go_enter Try.func102, Try.ntmps102
    go_wp2_with fail
    rw [EQ.out]
    unfold SplitAns
    rw [HE.out]
    exact ⟨none, 0, 0, [], rfl, RowI.nil _ _, Nat.le_refl _, ⟨by unfold maxLen; omega, fun _ _ e => by cases e⟩, (fun h => absurd h (by decide)), (fun _ => ⟨rfl, rfl⟩), (by repeat' (first | (with_reducible exact Below.refl _ _) | (with_reducible assumption) | (with_reducible refine below_alloc ?_ _ ?_) | (with_reducible refine below_set _ ?_ ?_) | (with_reducible refine Below.drew ?_) | (with_reducible refine below_dN ?_ _) | (apply below_thenA; assumption) | omega | (simp; done) | (simp; omega) | (simp [*]; done)))⟩
  · have ix : ¬ (1024 : Int) < (k : Int) := by omega
    have HK := Lib.hid hk
    clear hk
    cases hng : negB xs k
    · have hn := nonneg_of hx.1 hng
      have hE : shE t xs k = splC t xs k := by unfold shE; rw [if_neg HK.out, hng]; rfl
      have h3 := Blk.new ((w.alloc (.cells #[.int .i64 t] 2)).alloc (.cells #[.slice ao k cap] 31)) #[.slice none 0 0] 31 (w.heap.size + 1 + 1) (by simp)
      have hb3 : Below _ ((w.alloc (.cells #[.int .i64 t] 2)).alloc (.cells #[.slice ao k cap] 31)) (((w.alloc (.cells #[.int .i64 t] 2)).alloc (.cells #[.slice ao k cap] 31)).alloc (.cells #[.slice none 0 0] 31)) := (Below.refl _ _).alloc (Nat.le_refl _) _
      have TS := try_split t ao k cap xs w.heap.size (w.heap.size + 1) (w.heap.size + 1 + 1) hk2 ht hn hf _ (hxA.below hb3) (h1.below hb3) (h2.below hb3) h3
      have hB2 := hB.trans (hb3.mono hB.size)
      obtain ⟨E, eE⟩ : ∃ E, splC t xs k = E := ⟨_, rfl⟩
      rw [eE] at TS hE
      have HE := Lib.hid hE
      have MN := fun h0 W' hx' => sl_min ao k cap xs h0 hk2 W' hx'
      have hnm : 0 < k → ¬ minK xs (k - 1) < 0 := fun h0 hm => by
        unfold negB at hng
        rw [decide_eq_false_iff_not] at hng
        exact hng ⟨h0, hm⟩
      obtain ⟨m0, em0⟩ : ∃ m, minK xs (k - 1) = m := ⟨_, rfl⟩
      rw [em0] at hnm MN
      have HNM := Lib.hid hnm
      have hz : (w.alloc (.cells #[.int .i64 t] 2)).heap.size = w.heap.size + 1 := by simp
      have hsz3 : (((w.alloc (.cells #[.int .i64 t] 2)).alloc (.cells #[.slice ao k cap] 31)).alloc (.cells #[.slice none 0 0] 31)).heap.size = w.heap.size + 3 := by simp
      have HZ3 := Lib.hid hsz3
      clear eE hE hng hnm em0 hz hsz3 hn hf ht h3 hb3 h1 h2 hB
      by_cases h0 : 0 < k
      · have ix0 : (0 : Int) < (k : Int) := by omega
        have hm0 := HNM.out h0
        have M2 := MN h0
        clear MN HNM
        go_enter Try.func102, Try.ntmps102
        go_wp2_with (go_at_call 111; with_reducible refine (M2 _ hxA).mono ?_; rintro e w2 ⟨rfl, rfl⟩)
        refine TS.mono ?_
        rintro e w3 ⟨rfl, hout, hbt⟩
        replace hbt : Below w.heap.size w w3 := hbt.to hB2 (by omega) hB2.size
        by_cases hE0 : E = 0
        · obtain ⟨ao', cap', b1, b2, b3, b4, b5⟩ := hout hE0
          have HE0 := Lib.hid hE0
          subst hE0
          clear hout
          have c0 := b1.cell 0 _ rfl
          go_wp2_with fail
          rw [EQ.out]
          unfold SplitAns
          rw [HE.out]
          exact ⟨ao', k, cap', _, rfl, b2, b3, ⟨b4, fun g off e => Nat.le_trans (by rw [HZ3.out]; omega) (b5 g off e)⟩, (fun _ => ⟨rfl, rfl⟩), (fun h => absurd rfl h), hbt⟩
        · have hEb : (E != 0) = true := by simp [hE0]
          have HE0 := Lib.hid hE0
          clear hE0 hout
          go_wp2_with fail
          rw [EQ.out]
          unfold SplitAns
          rw [HE.out]
          exact ⟨none, 0, 0, [], rfl, RowI.nil _ _, Nat.le_refl _, ⟨by unfold maxLen; omega, fun _ _ e => by cases e⟩, (fun h => absurd h HE0.out), (fun _ => ⟨rfl, rfl⟩), hbt⟩
      · have ix0 : ¬ (0 : Int) < (k : Int) := by omega
        clear MN HNM
        go_enter Try.func102, Try.ntmps102
        go_wp2_with fail
        refine TS.mono ?_
        rintro e w3 ⟨rfl, hout, hbt⟩
        replace hbt : Below w.heap.size w w3 := hbt.to hB2 (by omega) hB2.size
        by_cases hE0 : E = 0
        · obtain ⟨ao', cap', b1, b2, b3, b4, b5⟩ := hout hE0
          have HE0 := Lib.hid hE0
          subst hE0
          clear hout
          have c0 := b1.cell 0 _ rfl
          go_wp2_with fail
          rw [EQ.out]
          unfold SplitAns
          rw [HE.out]
          exact ⟨ao', k, cap', _, rfl, b2, b3, ⟨b4, fun g off e => Nat.le_trans (by rw [HZ3.out]; omega) (b5 g off e)⟩, (fun _ => ⟨rfl, rfl⟩), (fun h => absurd rfl h), hbt⟩
        · have hEb : (E != 0) = true := by simp [hE0]
          have HE0 := Lib.hid hE0
          clear hE0 hout
          go_wp2_with fail
          rw [EQ.out]
          unfold SplitAns
          rw [HE.out]
          exact ⟨none, 0, 0, [], rfl, RowI.nil _ _, Nat.le_refl _, ⟨by unfold maxLen; omega, fun _ _ e => by cases e⟩, (fun h => absurd h HE0.out), (fun _ => ⟨rfl, rfl⟩), hbt⟩
    · have hE : shE t xs k = 1 := by unfold shE; rw [if_neg HK.out, hng]; rfl
      have HE := Lib.hid hE
      unfold negB at hng
      rw [decide_eq_true_iff] at hng
      obtain ⟨h0, hm0⟩ := hng
      have M2 := fun W' hx' => sl_min ao k cap xs h0 hk2 W' hx'
      obtain ⟨m0, em0⟩ : ∃ m, minK xs (k - 1) = m := ⟨_, rfl⟩
      rw [em0] at hm0 M2
      have ix0 : (0 : Int) < (k : Int) := by omega
      clear em0 hE hf ht h1 h2
      go_enter Try.func102, Try.ntmps102
      go_wp2_with (go_at_call 111; with_reducible refine (M2 _ hxA).mono ?_; rintro e w2 ⟨rfl, rfl⟩)
      rw [EQ.out]
      unfold SplitAns
      rw [HE.out]
      exact ⟨none, 0, 0, [], rfl, RowI.nil _ _, Nat.le_refl _, ⟨by unfold maxLen; omega, fun _ _ e => by cases e⟩, (fun h => absurd h (by decide)), (fun _ => ⟨rfl, rfl⟩), hB⟩
end Go.Proofs.Ythofammjbicogaa
namespace Go.Proofs.Ythofammjbicogaa
open Go.RowKit
set_option linter.unusedSimpArgs false
set_option linter.unusedVariables false

def ones (n : Nat) : List Int := List.replicate n 1
/-- A new block of n cells, of which the first j are 1. -/
def OnesAt (w : World) (g n j : Nat) : Prop := ∃ cs, Blk w g cs 2 ∧ cs.size = n ∧ ∀ i, i < j → cs[i]? = some (.int .i64 1)
theorem OnesAt.step {w : World} {g n j : Nat} (h : OnesAt w g n j) (hj : j < n) : OnesAt (w.setCell ⟨g, j, none⟩ (.int .i64 1)) g n (j + 1) := by
  obtain ⟨cs, h1, h2, h3⟩ := h
  refine ⟨cs.setIfInBounds j (.int .i64 1), h1.set j _, by simp [h2], fun i hi => ?_⟩
  rw [Array.getElem?_setIfInBounds]
  by_cases e : j = i
  · rw [if_pos e, if_pos (by omega)]
  · rw [if_neg e]
    exact h3 i (by omega)
theorem OnesAt.row {w : World} {g n : Nat} (h : OnesAt w g n n) : RowI w (some ⟨g, 0, none⟩) n (ones n) := by
  obtain ⟨cs, h1, h2, h3⟩ := h
  refine ⟨by simp [ones], fun _ => ⟨g, 0, rfl, h1.lt, fun i hi => ?_⟩⟩
  rw [Nat.zero_add]
  have e : (ones n).getD i 0 = 1 := by simp [ones, List.getD, hi]
  rw [e]
  exact h1.cell i _ (h3 i hi)
theorem fits_ones (n : Nat) : Fits (ones n) := by
  intro i
  by_cases hi : i < n
  · have e : (ones n).getD i 0 = 1 := by simp [ones, List.getD, hi]
    rw [e]; omega
  · have e : (ones n).getD i 0 = 0 := by simp [ones, List.getD, hi]
    rw [e]; omega
set_option maxRecDepth 100000 in
set_option maxHeartbeats 3200000 in
theorem sh_even (t : Int) (n : Nat) (hn : n ≤ 1024) (ht : IFit t) (w : World) :
    Calls Try.prog 85 #[.int .i64 t, .int .i64 ((n : Int))] w (SplitAns t (ones n) n w) := by
  obtain ⟨i0, hi, hz0, hz1, hz2⟩ := info_parts (show (Try.prog.info? 2).map (fun i => (i.zero, i.size, i.bytes)) = some (some (.int .i64 0), 1, 8) by kernel_rfl)
  obtain ⟨Q, eQ⟩ : ∃ Q, Q = SplitAns t (ones n) n w := ⟨_, rfl⟩
  rw [← eQ]
  have EQ := Lib.hid eQ
  have SP := fun W' hx => sh_split t (some ⟨w.heap.size, 0, none⟩) n n (ones n) (by omega) ht (fits_ones n) W' hx
  have ix1 : ¬ (n : Int) < 0 := by omega
  have ix2 : ¬ (1024 : Int) < (n : Int) := by omega
  clear eQ
  go_enter Try.func85, Try.ntmps85
  go_wp2_with (at_make; refine wpList_make_row _ rfl _ _ 31 rfl 2 i0 (.int .i64 0) Try.underlying31 hi hz0 hz1 rfl _ _ n rfl rfl ?b2 ?b3 ?_)
  case b2 => omega
  case b3 => omega
  have h0 : OnesAt (w.alloc (.cells (madeCells #[.int .i64 0] n) 2)) w.heap.size n 0 := ⟨_, Blk.new w _ _ _ rfl, size_madeCells _ _, fun i hi => by omega⟩
  have hB : Below w.heap.size w (w.alloc (.cells (madeCells #[.int .i64 0] n) 2)) := (by repeat' (first | (with_reducible exact Below.refl _ _) | (with_reducible assumption) | (with_reducible refine below_alloc ?_ _ ?_) | (with_reducible refine below_set _ ?_ ?_) | (with_reducible refine Below.drew ?_) | (with_reducible refine below_dN ?_ _) | (apply below_thenA; assumption) | omega | (simp; done) | (simp; omega) | (simp [*]; done)))
  go_wp2_with fail
  go_loopg [18] n (fun gk s18 wr => ∃ (j : Nat), j ≤ n ∧ gk = n - j ∧ s18 = .int .i64 ((j : Int)) ∧ OnesAt wr w.heap.size n j ∧ Below w.heap.size w wr)
  case atStart => exact ⟨0, by omega, by omega, rfl, h0, hB⟩
  case round =>
    clear h0 hB
    obtain ⟨j, hj, rfl, rfl, h0, hB⟩ := hrel
    by_cases hjk : j < n
    · have ix : (j : Int) < (n : Int) := by omega
      have hst := h0.step hjk
      obtain ⟨cs, h1, h2, h3⟩ := h0
      obtain ⟨y, c0⟩ := h1.cellx j (by omega)
      have f0 := h1.free j
      clear h3 h1 h2
      go_wp2_with fail
      go_roundg (n - (j + 1))
      case measure => omega
      case rel => exact ⟨j + 1, by omega, rfl, by go_num, hst, hB.setCell (p := ⟨w.heap.size, j, none⟩) (Nat.le_refl _) _⟩
    · obtain rfl : j = n := by omega
      have ix : ¬ (j : Int) < (j : Int) := by omega
      go_wp2_with fail
      refine (SP _ h0.row).mono ?_
      rintro e w2 ⟨ao, m, cap, ys, rfl, a1, a2, a3, a4, a5, hb⟩
      go_wp2_with fail
      rw [EQ.out]
      exact ⟨ao, m, cap, ys, rfl, a1, a2, ⟨a3.1, fun g off e => Nat.le_trans hB.size (a3.2 g off e)⟩, a4, a5, hB.trans (hb.mono hB.size)⟩
theorem row_of_blk {w : World} {g : Nat} {cs : Array Value} (xs : List Int) (n : Nat) (hn : xs.length = n) (h : Blk w g cs 2) (e : cs.toList = i64s xs) : RowI w (some ⟨g, 0, none⟩) n xs := by
  refine ⟨hn, fun _ => ⟨g, 0, rfl, h.lt, fun i hi => ?_⟩⟩
  rw [Nat.zero_add]
  refine h.cell i _ ?_
  rw [← Array.getElem?_toList, e]
  unfold i64s
  rw [List.getElem?_map]
  have hx : i < xs.length := by omega
  simp [List.getD, hx]
theorem fits_list {xs : List Int} (h : ∀ x ∈ xs, -9223372036854775808 ≤ x ∧ x ≤ 9223372036854775807) : Fits xs := by
  intro i
  simp only [List.getD]
  cases e : xs[i]? with
  | none => simp
  | some x => exact h x (List.mem_of_getElem? e)
end Go.Proofs.Ythofammjbicogaa
namespace Go.Proofs.Ythofammjbicogaa
open Go.RowKit
set_option linter.unusedSimpArgs false
set_option linter.unusedVariables false

theorem one_get {n i : Nat} (h : i < n) : (ones n).getD i 0 = 1 := by simp [ones, List.getD, h]
theorem one_pre (n : Nat) : ∀ k, k ≤ n → pre (ones n) k = (k : Int)
  | 0, _ => rfl
  | k + 1, h => by
    show pre (ones n) k + (ones n).getD k 0 = _
    rw [one_pre n k (by omega), one_get (by omega)]
    push_cast
    rfl
theorem one_nonneg (n : Nat) : Nonneg (ones n) := fun i => by
  by_cases h : i < n
  · rw [one_get h]; decide
  · have e : (ones n).getD i 0 = 0 := by simp [ones, List.getD, h]
    rw [e]; decide
theorem shE_one {t : Int} {n : Nat} (hm : n ≤ 1024) (hl : lenB t = true) : shE t (ones n) n = 0 := by
  unfold shE
  rw [if_neg (by omega)]
  have : negB (ones n) n = false := by
    unfold negB
    rw [decide_eq_false_iff_not]
    rintro ⟨_, h⟩
    obtain ⟨i, _, h⟩ := (minK_neg _ _).1 h
    have := one_nonneg n i
    omega
  rw [this]
  have hS : pre (ones n) n ≤ 4611686018427387904 := by rw [one_pre n n (Nat.le_refl _)]; omega
  unfold splC allE
  rw [hl, if_pos hS]
  rfl
/-- A length in so many even parts. -/
def evL (t : Int) (p : Nat) : List Int := partsN t (p : Int) (ones p) p
theorem evL_len (t : Int) (p : Nat) : (evL t p).length = p := partsN_len _ _ _ _
set_option maxRecDepth 100000 in
set_option maxHeartbeats 1600000 in
theorem flx_even (t : Int) (p : Nat) (hp2 : p ≤ 1024) (ht : lenB t = true) (w : World) :
    Calls Try.prog 83 #[.int .i64 t, .int .i64 ((p : Int))] w fun e w' => ∃ ao cap, e = .returned (.slice ao p cap) ∧ RowI w' ao p (evL t p) ∧ p ≤ cap ∧ cap ≤ maxLen ∧ (∀ g off, ao = some ⟨g, off, none⟩ → w.heap.size ≤ g) ∧ Below w.heap.size w w' := by
  have hL := (lenB_iff t).1 ht
  have SP := fun W => sh_even t p hp2 hL.fit W
  unfold SplitAns at SP
  rw [shE_one hp2 ht, one_pre p p (Nat.le_refl _)] at SP
  clear ht hL
  go_enter Try.func83, Try.ntmps83
  go_wp2_with fail
  refine (SP _).mono ?_
  rintro e w1 ⟨ao, m, cap, ys, rfl, r1, a1, a2, h1, -, hb⟩
  obtain ⟨e2, rfl⟩ := h1 (by first | trivial | rfl)
  obtain rfl := e2.symm
  go_wp2_with (go_at_call 86; with_reducible refine (fix_fail0 _).mono ?_; rintro e w2 ⟨rfl, rfl⟩)
  go_ret
  exact ⟨ao, cap, rfl, r1, a1, a2.1, a2.2, hb⟩
/-- The room that is left behind the first things. -/
def roomV (xs : List Int) (avail gap : Int) (j : Nat) : Int := avail - pre xs j - gap * ((j - 1 : Nat) : Int)
theorem room_zero (xs : List Int) (avail gap : Int) : roomV xs avail gap 0 = avail := by unfold roomV; simp [pre]
theorem room_one (xs : List Int) (avail gap : Int) : roomV xs avail gap 1 = roomV xs avail gap 0 - xs.getD 0 0 := by unfold roomV; simp [pre]
theorem room_next (xs : List Int) (avail gap : Int) (j : Nat) (hj : 0 < j) : roomV xs avail gap (j + 1) = roomV xs avail gap j - gap - xs.getD j 0 := by
  unfold roomV
  have e1 : ((j + 1 - 1 : Nat) : Int) = ((j - 1 : Nat) : Int) + 1 := by omega
  have e2 : pre xs (j + 1) = pre xs j + xs.getD j 0 := rfl
  rw [e1, e2, Int.mul_add, Int.mul_one]
  omega
/-- Numbers that have room: sizes below 2^36, few of them; the gap; the room. -/
structure Lim (xs : List Int) (k : Nat) (avail gap : Int) : Prop where
  k30 : k ≤ 30
  xs36 : ∀ i, -68719476736 ≤ xs.getD i 0 ∧ xs.getD i 0 ≤ 68719476736
  av : -1099511627776 ≤ avail ∧ avail ≤ 1099511627776
  gp : -1073741824 ≤ gap ∧ gap ≤ 1073741824
theorem pre_lim {xs : List Int} (h : ∀ i, -68719476736 ≤ xs.getD i 0 ∧ xs.getD i 0 ≤ 68719476736) : ∀ j : Nat, -(68719476736 * (j : Int)) ≤ pre xs j ∧ pre xs j ≤ 68719476736 * (j : Int)
  | 0 => by simp [pre]
  | j + 1 => by
    have h1 := pre_lim h j
    have h2 := h j
    have h3 : pre xs (j + 1) = pre xs j + xs.getD j 0 := rfl
    rw [h3]
    push_cast
    omega
theorem gap_lim {gap : Int} (h : -1073741824 ≤ gap ∧ gap ≤ 1073741824) {j : Nat} (hj : j ≤ 30) : -32212254720 ≤ gap * (j : Int) ∧ gap * (j : Int) ≤ 32212254720 := by
  have h0 : (0 : Int) ≤ (j : Int) := by omega
  have h1 := Int.mul_le_mul_of_nonneg_right h.1 h0
  have h2 := Int.mul_le_mul_of_nonneg_right h.2 h0
  omega
theorem room_lim {xs : List Int} {k : Nat} {avail gap : Int} (h : Lim xs k avail gap) {j : Nat} (hj : j ≤ 30) : -4398046511104 ≤ roomV xs avail gap j ∧ roomV xs avail gap j ≤ 4398046511104 := by
  have h1 := pre_lim h.xs36 j
  have h2 := gap_lim h.gp (show j - 1 ≤ 30 by omega)
  have h3 := h.av
  unfold roomV
  omega
set_option maxRecDepth 100000 in
set_option maxHeartbeats 1600000 in
theorem flx_room (ao : Option Addr) (k cap : Nat) (xs : List Int) (avail gap : Int) (h : Lim xs k avail gap) (w : World) (hx : RowI w ao k xs) :
    Calls Try.prog 65 #[.slice ao k cap, .int .i64 avail, .int .i64 gap] w fun e w' => e = .returned (.int .i64 (roomV xs avail gap k)) ∧ Below w.heap.size w w' := by
  have HX := Lib.hid hx
  have HL := Lib.hid h
  have OF := fun W => fix_of avail (by have := h.av; unfold IFit; omega) (by have := h.av; unfold LenB; omega) W
  have hk30 := h.k30
  clear hx h
  go_enter Try.func65, Try.ntmps65
  go_wp2_with fail
  refine (OF _).mono ?_
  rintro e w1 ⟨rfl, rfl⟩
  go_wp2_with fail
  go_loopg [7, 14] k (fun gk s7 s14 wr => ∃ (j : Nat) (r : Int), j ≤ k ∧ gk = k - j ∧ s7 = .int .i64 r ∧ s14 = .int .i64 ((j : Int)) ∧ r = roomV xs avail gap j ∧ Below w1.heap.size w1 wr)
  case atStart => exact ⟨0, avail, by omega, by omega, rfl, rfl, (room_zero _ _ _).symm, Below.refl _ _⟩
  case round =>
    obtain ⟨j, r, hj, rfl, rfl, rfl, er, hB⟩ := hrel
    have hr := room_lim HL.out (show j ≤ 30 by omega)
    rw [← er] at hr
    have hr1 := hr.1
    have hr2 := hr.2
    have ER := Lib.hid er
    clear er hr
    by_cases hjk : j < k
    · have ix : (j : Int) < (k : Int) := by omega
      obtain ⟨g, off, rfl, _, hcx⟩ := (HX.out.below hB).at hjk
      have hx := HL.out.xs36 j
      have hg := HL.out.gp
      have hn := room_lim HL.out (show j + 1 ≤ 30 by omega)
      by_cases hj0 : j = 0
      · have en := room_one xs avail gap
        subst hj0
        rw [← ER.out] at en
        obtain ⟨x, ex⟩ : ∃ x, xs.getD 0 0 = x := ⟨_, rfl⟩
        rw [ex] at hcx hx en
        rw [Nat.add_zero] at hcx
        rw [Nat.zero_add, en] at hn
        have SB := fun W => (fix_sub r x (by unfold IFit; omega) (by unfold IFit; omega) W).mono fun e w' h => (⟨h.1 (by unfold lenE; rw [(lenB_iff _).2 (by unfold LenB; omega)]; rfl), h.2.2⟩ : _ ∧ _)
        have eN : lenN (r - x) = r - x := by unfold lenN; rw [(lenB_iff _).2 (by unfold LenB; omega)]; rfl
        rw [eN] at SB
        have EN := Lib.hid en
        have hk0 : 0 < k := hjk
        clear ex en eN
        go_wp2_with fail
        refine (SB _).mono ?_
        rintro e w2 ⟨rfl, hb⟩
        replace hB := hB.trans (hb.mono hB.size)
        go_wp2_with fail
        go_roundg (k - 1)
        case measure => omega
        case rel => exact ⟨1, r - x, by omega, by omega, rfl, by go_num, EN.out.symm, hB⟩
      · have en := room_next xs avail gap j (by omega)
        rw [← ER.out] at en
        obtain ⟨x, ex⟩ : ∃ x, xs.getD j 0 = x := ⟨_, rfl⟩
        rw [ex] at hcx hx en
        rw [en] at hn
        have hj0' : (0 : Int) < (j : Int) := by omega
        have hjp : 0 < j := by omega
        have SG := fun W => (fix_sub r gap (by unfold IFit; omega) (by unfold IFit; omega) W).mono fun e w' h => (⟨h.1 (by unfold lenE; rw [(lenB_iff _).2 (by unfold LenB; omega)]; rfl), h.2.2⟩ : _ ∧ _)
        have eG : lenN (r - gap) = r - gap := by unfold lenN; rw [(lenB_iff _).2 (by unfold LenB; omega)]; rfl
        rw [eG] at SG
        have SB := fun W => (fix_sub (r - gap) x (by unfold IFit; omega) (by unfold IFit; omega) W).mono fun e w' h => (⟨h.1 (by unfold lenE; rw [(lenB_iff _).2 (by unfold LenB; omega)]; rfl), h.2.2⟩ : _ ∧ _)
        have eN : lenN (r - gap - x) = r - gap - x := by unfold lenN; rw [(lenB_iff _).2 (by unfold LenB; omega)]; rfl
        rw [eN] at SB
        have EN := Lib.hid en
        have HJ := Lib.hid hj0
        clear ex en eN eG hj0
        go_wp2_with fail
        refine (SG _).mono ?_
        rintro e w2 ⟨rfl, hb⟩
        replace hB := hB.trans (hb.mono hB.size)
        clear hb hcx
        go_wp2_with fail
        refine (SB _).mono ?_
        rintro e w3 ⟨rfl, hb⟩
        replace hB := hB.trans (hb.mono hB.size)
        go_wp2_with fail
        go_roundg (k - (j + 1))
        case measure => omega
        case rel => exact ⟨j + 1, r - gap - x, by omega, rfl, rfl, by go_num, EN.out.symm, hB⟩
    · obtain rfl : j = k := by omega
      have ix : ¬ (j : Int) < (j : Int) := by omega
      go_wp2_with fail
      go_ret
      exact ⟨by rw [ER.out]; rfl, hB⟩
theorem ints_blk {w : World} {g n : Nat} {cs : Array Value} (xs : List Int) (hn : xs.length = n) (h : Blk w g cs 2) (e : cs.toList = i64s xs) (hf : ∀ x ∈ xs, IFit x) : IntsAt w g 0 n xs := by
  obtain ⟨h1, h2⟩ := row_of_blk xs n hn h e
  refine ⟨hn, fun i hi => ?_, fun i hi => ?_⟩
  · have hl : i < xs.length := by omega
    simp only [List.getD]
    rw [List.getElem?_eq_getElem hl]
    exact hf _ (List.getElem_mem hl)
  · obtain ⟨g', off, e', _, hc⟩ := h2 (by omega)
    obtain ⟨rfl, rfl⟩ : g = g' ∧ 0 = off := by simpa using e'
    exact hc i hi
theorem flx_add2 (g : Nat) (a b : Int) (ha : LenB a) (hb : IFit b) (hs : LenB (a + b)) (w : World) (h : Blk w g #[.int .i64 a, .int .i64 b] 2) :
    Calls Try.prog 57 #[.slice (some ⟨g, 0, none⟩) 2 2] w fun e w' => e = .returned (.int .i64 (a + b)) ∧ Below w.heap.size w w' := by
  have ep : addP 0 [a, b] = some (a + b) := by unfold addP addP addP; rw [Int.zero_add, (lenB_iff _).2 ha, (lenB_iff _).2 hs]; rfl
  have e1 : addN [a, b] = a + b := by unfold addN; rw [ep]; rfl
  have e2 : addE [a, b] = 0 := by unfold addE; rw [ep]; rfl
  have := fix_add_any g 0 2 2 [a, b] (by omega) w (ints_blk [a, b] rfl h rfl (by intro x hx; simp at hx; rcases hx with rfl | rfl; exact ha.fit; exact hb))
  rw [e1, e2] at this
  exact this.mono fun e w' h => ⟨h.1 rfl, h.2.2⟩
theorem flx_add3 (g : Nat) (a b c : Int) (ha : LenB a) (hb : IFit b) (hc : IFit c) (hs : LenB (a + b)) (hs2 : LenB (a + b + c)) (w : World) (h : Blk w g #[.int .i64 a, .int .i64 b, .int .i64 c] 2) :
    Calls Try.prog 57 #[.slice (some ⟨g, 0, none⟩) 3 3] w fun e w' => e = .returned (.int .i64 (a + b + c)) ∧ Below w.heap.size w w' := by
  have ep : addP 0 [a, b, c] = some (a + b + c) := by unfold addP addP addP addP; rw [Int.zero_add, (lenB_iff _).2 ha, (lenB_iff _).2 hs, (lenB_iff _).2 hs2]; rfl
  have e1 : addN [a, b, c] = a + b + c := by unfold addN; rw [ep]; rfl
  have e2 : addE [a, b, c] = 0 := by unfold addE; rw [ep]; rfl
  have := fix_add_any g 0 3 3 [a, b, c] (by omega) w (ints_blk [a, b, c] rfl h rfl (by intro x hx; simp at hx; rcases hx with rfl | rfl | rfl; exact ha.fit; exact hb; exact hc))
  rw [e1, e2] at this
  exact this.mono fun e w' h => ⟨h.1 rfl, h.2.2⟩
/-- Where things stand. -/
def plAt (xs sp : List Int) (gap : Int) (i : Nat) : Int := pre sp (i + 1) + pre xs i + gap * (i : Int)
def plN (xs sp : List Int) (gap : Int) (n : Nat) : List Int := (List.range n).map (plAt xs sp gap)
theorem plN_succ (xs sp : List Int) (gap : Int) (n : Nat) : plN xs sp gap (n + 1) = plN xs sp gap n ++ [plAt xs sp gap n] := by
  unfold plN
  rw [List.range_succ, List.map_append]
  rfl
def PlRel (w : World) (xs sp : List Int) (gap : Int) (k gk : Nat) (s7 s8 s13 : Value) (wr : World) : Prop :=
  ∃ (j : Nat) (aj : Option Addr) (cj : Nat) (a : Int), j ≤ k ∧ gk = k - j ∧ s7 = .slice aj j cj ∧ s8 = .int .i64 a ∧ s13 = .int .i64 ((j : Int)) ∧ (j < k → a = pre sp j + pre xs j + gap * (j : Int)) ∧ IFit a ∧ OwnI wr w.heap.size aj j cj (plN xs sp gap j) ∧ Below w.heap.size w wr
set_option maxRecDepth 100000 in
set_option maxHeartbeats 3200000 in
theorem flx_places (ao so : Option Addr) (k cap m sc : Nat) (xs sp : List Int) (gap : Int) (hk30 : k ≤ 30) (hgp : -1073741824 ≤ gap ∧ gap ≤ 1073741824) (h : ∀ j, j ≤ k → -6597069766656 ≤ pre xs j ∧ pre xs j ≤ 6597069766656) (hkm : k ≤ m) (hsf : ∀ j, j ≤ m → -8796093022208 ≤ pre sp j ∧ pre sp j ≤ 8796093022208) (w : World) (hx : RowI w ao k xs) (hy : RowI w so m sp) :
    Calls Try.prog 68 #[.slice ao k cap, .slice so m sc, .int .i64 gap] w fun e w' => ∃ aj cj, e = .returned (.slice aj k cj) ∧ OwnI w' w.heap.size aj k cj (plN xs sp gap k) ∧ Below w.heap.size w w' := by
  obtain ⟨i0, hi, hz0, hz1, hz2⟩ := info_parts (show (Try.prog.info? 2).map (fun i => (i.zero, i.size, i.bytes)) = some (some (.int .i64 0), 1, 8) by kernel_rfl)
  obtain ⟨Q, eQ⟩ : ∃ Q : Ending → World → Prop, Q = fun e w' => ∃ aj cj, e = .returned (.slice aj k cj) ∧ OwnI w' w.heap.size aj k cj (plN xs sp gap k) ∧ Below w.heap.size w w' := ⟨_, rfl⟩
  rw [← eQ]
  have EQ := Lib.hid eQ
  have HX := Lib.hid hx
  have HY := Lib.hid hy
  have HL := Lib.hid h
  have HS := Lib.hid hsf
  have HG := Lib.hid hgp
  clear hx hy h hsf eQ
  go_enter Try.func68, Try.ntmps68
  go_wp2_with fail
  go_loopg [7, 8, 13] k (fun gk s7 s8 s13 wr => PlRel w xs sp gap k gk s7 s8 s13 wr)
  case atStart => exact ⟨0, none, 0, 0, by omega, by omega, rfl, rfl, rfl, fun _ => by simp [pre], by unfold IFit; omega, OwnI.nil _ _, Below.refl _ _⟩
  case round =>
    obtain ⟨j, aj, cj, a, hj, rfl, rfl, rfl, rfl, ea, _, ho, hB⟩ := hrel
    have hsz := hB.size
    by_cases hjk : j < k
    · replace ea := ea hjk
      have ix : (j : Int) < (k : Int) := by omega
      have ixm : (j : Int) < (m : Int) := by omega
      obtain ⟨g, off, rfl, hg1, hcx⟩ := (HX.out).at hjk
      obtain ⟨g2, off2, rfl, hg2, hcy⟩ := (HY.out).at (show j < m by omega)
      have px := HL.out j (by omega)
      have px1 := HL.out (j + 1) (by omega)
      have gj := gap_lim HG.out (show j ≤ 30 by omega)
      have gj1 := gap_lim HG.out (show j + 1 ≤ 30 by omega)
      have hx : -13194139533312 ≤ xs.getD j 0 ∧ xs.getD j 0 ≤ 13194139533312 := by have : pre xs (j + 1) = pre xs j + xs.getD j 0 := rfl; omega
      have s0 := HS.out j (by omega)
      have s1 := HS.out (j + 1) (by omega)
      have es1 : pre sp (j + 1) = pre sp j + sp.getD j 0 := rfl
      have ex1 : pre xs (j + 1) = pre xs j + xs.getD j 0 := rfl
      have eg1 : gap * ((j + 1 : Nat) : Int) = gap * (j : Int) + gap := by push_cast; rw [Int.mul_add, Int.mul_one]
      have hpl : plAt xs sp gap j = a + sp.getD j 0 := by unfold plAt; rw [es1, ea]; omega
      have hnx : pre sp (j + 1) + pre xs (j + 1) + gap * ((j + 1 : Nat) : Int) = a + sp.getD j 0 + xs.getD j 0 + gap := by rw [es1, ex1, eg1, ea]; omega
      obtain ⟨x, ex⟩ : ∃ x, xs.getD j 0 = x := ⟨_, rfl⟩
      obtain ⟨y, ey⟩ : ∃ y, sp.getD j 0 = y := ⟨_, rfl⟩
      rw [ex] at hcx hx ex1 hnx
      rw [ey] at hcy es1 hpl hnx
      have La : LenB a := by unfold LenB; omega
      have Ly : IFit y := by unfold IFit; omega
      have Lay : LenB (a + y) := by unfold LenB; omega
      have Lx : IFit x := by unfold IFit; omega
      have Lg : IFit gap := by unfold IFit; omega
      have Layx : LenB (a + y + x) := by unfold LenB; omega
      have Layxg : LenB (a + y + x + gap) := by unfold LenB; omega
      have hcx0 := (hB.cell (p := ⟨g, off + j, none⟩) hg1).trans hcx
      have hcy0 := (hB.cell (p := ⟨g2, off2 + j, none⟩) hg2).trans hcy
      have HPL := Lib.hid hpl
      have HNX := Lib.hid hnx
      have HCY := Lib.hid hcy
      have HCX := Lib.hid hcx
      have A2 := flx_add2 wr.heap.size a y La Ly Lay (wr.alloc (.cells #[.int .i64 a, .int .i64 y] 2)) (Blk.new wr _ _ _ rfl)
      have LL := Lib.hid (⟨Lay, Lx, Lg, Layx, Layxg⟩ : LenB (a + y) ∧ IFit x ∧ IFit gap ∧ LenB (a + y + x) ∧ LenB (a + y + x + gap))
      clear ea px px1 gj gj1 s0 s1 es1 ex1 eg1 hpl hnx ex ey hcx hcy La Ly Lay Lx Lg Layx Layxg hx
      have hb0 : Below wr.heap.size wr (wr.alloc (.cells #[.int .i64 a, .int .i64 y] 2)) := (by repeat' (first | (with_reducible exact Below.refl _ _) | (with_reducible assumption) | (with_reducible refine below_alloc ?_ _ ?_) | (with_reducible refine below_set _ ?_ ?_) | (with_reducible refine Below.drew ?_) | (with_reducible refine below_dN ?_ _) | (apply below_thenA; assumption) | omega | (simp; done) | (simp; omega) | (simp [*]; done)))
      have ho0 := ho.below hb0
      have hB0 := hB.trans (hb0.mono hB.size)
      go_wp2_with fail
      refine A2.mono ?_
      rintro e w1 ⟨rfl, hb⟩
      replace ho := ho0.below hb
      replace hB := hB0.trans (hb.mono hB0.size)
      have hsz1 := hB.size
      have hsh := ho.shape
      clear hb hb0 A2 ho0 hB0 hcx0 hcy0 hsz
      go_wp2_with (at_builtin; refine wpList_append_own _ rfl _ _ 31 rfl w.heap.size 2 i0 (.int .i64 0) 1 8 Try.underlying31 hi hz0 hz1 hz2 rfl (by decide) _ _ _ rfl (ho.1.alloc _) ⟨w1.heap.size, 0, none⟩ 1 1 [.int .i64 (a + y)] rfl rfl ?c1 ?c2 ?c3 ?c4 ?c5 ?_)
      case c1 =>
        intro j u hj
        match j, hj with
        | 0, hj => simp at hj; subst hj; simp [Addr.add]
      case c2 => intro u hu; simp at hu; subst hu; rfl
      case c3 => unfold maxLen; omega
      case c4 => omega
      case c5 => simp; omega
      intro v' w2 hown' hgrow _
      obtain ⟨ao', cap', rfl, ho', _, hB'⟩ := ho.grown hown' hgrow (by omega)
      replace hB := hB' _ _ (Nat.le_refl _) hB
      clear hown' hgrow hB' hsz1 hsh
      have hsz := hB.size
      by_cases hj1 : j + 1 < k
      · have ix1 : (j : Int) + 1 < (k : Int) := by omega
        obtain ⟨Lay, Lx, Lg, Layx, Layxg⟩ := LL.out
        have A3 := flx_add3 w2.heap.size (a + y) x gap Lay Lx Lg Layx Layxg (w2.alloc (.cells #[.int .i64 (a + y), .int .i64 x, .int .i64 gap] 2)) (Blk.new w2 _ _ _ rfl)
        have F := Layxg.fit
        have HF := Lib.hid F
        clear Lay Lx Lg Layx Layxg F
        have hb0 : Below w2.heap.size w2 (w2.alloc (.cells #[.int .i64 (a + y), .int .i64 x, .int .i64 gap] 2)) := (by repeat' (first | (with_reducible exact Below.refl _ _) | (with_reducible assumption) | (with_reducible refine below_alloc ?_ _ ?_) | (with_reducible refine below_set _ ?_ ?_) | (with_reducible refine Below.drew ?_) | (with_reducible refine below_dN ?_ _) | (apply below_thenA; assumption) | omega | (simp; done) | (simp; omega) | (simp [*]; done)))
        replace ho' := ho'.below hb0
        replace hB := hB.trans (hb0.mono hB.size)
        go_wp2_with fail
        refine A3.mono ?_
        rintro e w3 ⟨rfl, hb⟩
        replace ho' := ho'.below hb
        replace hB := hB.trans (hb.mono hB.size)
        go_wp2_with fail
        go_roundg (k - (j + 1))
        case measure => omega
        case rel => exact ⟨j + 1, ao', cap', a + y + x + gap, by omega, rfl, rfl, rfl, by go_num, (fun _ => HNX.out.symm), HF.out, by rw [plN_succ, HPL.out]; exact ho', hB⟩
      · have ix1 : ¬ (j : Int) + 1 < (k : Int) := by omega
        have F := LL.out.1.fit
        have HF := Lib.hid F
        have HJ1 := Lib.hid hj1
        clear F hj1
        go_wp2_with fail
        go_roundg (k - (j + 1))
        case measure => omega
        case rel => exact ⟨j + 1, ao', cap', a + y, by omega, rfl, rfl, rfl, by go_num, (fun h => absurd h HJ1.out), HF.out, by rw [plN_succ, HPL.out]; exact ho', hB⟩
    · obtain rfl : j = k := by omega
      have ix : ¬ (j : Int) < (j : Int) := by omega
      clear ea
      go_wp2_with fail
      rw [EQ.out]
      exact ⟨aj, cj, rfl, ho, hB⟩
end Go.Proofs.Ythofammjbicogaa
namespace Go.Proofs.Ythofammjbicogaa
open Go.RowKit
set_option linter.unusedSimpArgs false
set_option linter.unusedVariables false

/-- A block that holds just these numbers. -/
def BlkI (w : World) (g : Nat) (xs : List Int) : Prop := Blk w g (i64s xs).toArray 2
theorem BlkI.cell {w : World} {g : Nat} {xs : List Int} (h : BlkI w g xs) {i : Nat} (hi : i < xs.length) : w.cell? ⟨g, i, none⟩ = some (.int .i64 (xs.getD i 0)) := by
  refine Blk.cell h i _ ?_
  unfold i64s
  simp [List.getD, hi]
theorem BlkI.free {w : World} {g : Nat} {xs : List Int} (h : BlkI w g xs) (i : Nat) : w.frozen? ⟨g, i, none⟩ = false := Blk.free h i
theorem BlkI.put {w : World} {g : Nat} {xs : List Int} (h : BlkI w g xs) (i : Nat) (y : Int) : BlkI (w.setCell ⟨g, i, none⟩ (.int .i64 y)) g (xs.set i y) := by
  have h1 := Blk.set h i (.int .i64 y)
  unfold BlkI
  have e : (i64s (xs.set i y)).toArray = (i64s xs).toArray.setIfInBounds i (.int .i64 y) := by
    unfold i64s
    rw [List.map_set, List.setIfInBounds_toArray]
  rw [e]
  exact h1
theorem BlkI.below {w w' : World} {g : Nat} {xs : List Int} (h : BlkI w g xs) (hb : Below w.heap.size w w') : BlkI w' g xs := Blk.below h hb
theorem BlkI.row {w : World} {g n : Nat} {xs : List Int} (h : BlkI w g xs) (hn : xs.length = n) : RowI w (some ⟨g, 0, none⟩) n xs := row_of_blk xs n hn h rfl
theorem BlkI.zeros (w : World) (n : Nat) : BlkI (w.alloc (.cells (madeCells #[.int .i64 0] n) 2)) w.heap.size (List.replicate n 0) := by
  have e : (i64s (List.replicate n 0)).toArray = madeCells #[.int .i64 0] n := by
    apply Array.ext'
    rw [toList_madeCells_one]
    simp [i64s]
  unfold BlkI
  rw [e]
  exact Blk.new w _ _ _ rfl
theorem pre_set (xs : List Int) (i : Nat) (d : Int) (hi : i < xs.length) : ∀ m, pre (xs.set i (xs.getD i 0 + d)) m = pre xs m + (if i < m then d else 0)
  | 0 => by simp [pre]
  | m + 1 => by
    show pre _ m + (xs.set i (xs.getD i 0 + d)).getD m 0 = pre xs m + xs.getD m 0 + _
    rw [pre_set xs i d hi m]
    by_cases e : i = m
    · subst e
      have : (xs.set i (xs.getD i 0 + d)).getD i 0 = xs.getD i 0 + d := by simp [List.getD, hi]
      rw [this, if_neg (by omega), if_pos (by omega)]
      omega
    · have : (xs.set i (xs.getD i 0 + d)).getD m 0 = xs.getD m 0 := by simp [List.getD, List.getElem?_set_ne e]
      rw [this]
      by_cases h1 : i < m
      · rw [if_pos h1, if_pos (by omega)]; omega
      · rw [if_neg h1, if_neg (by omega)]; omega
/-- Half a part on each side of each of n things: the first j half parts laid. -/
def arL (ps : List Int) (n : Nat) : Nat → List Int
  | 0 => List.replicate (n + 1) 0
  | j + 1 => (arL ps n j).set ((j + 1) / 2) ((arL ps n j).getD ((j + 1) / 2) 0 + ps.getD j 0)
theorem arL_len (ps : List Int) (n : Nat) : ∀ j, (arL ps n j).length = n + 1
  | 0 => by simp [arL]
  | j + 1 => by
    unfold arL
    rw [List.length_set]
    exact arL_len ps n j
theorem arL_pre (ps : List Int) (n : Nat) : ∀ j, j ≤ 2 * n → pre (arL ps n j) (n + 1) = pre ps j
  | 0, _ => by
    have : ∀ m, pre (List.replicate (n + 1) 0) m = 0 := by
      intro m
      induction m with
      | zero => rfl
      | succ m ih =>
        show pre _ m + (List.replicate (n + 1) (0 : Int)).getD m 0 = 0
        rw [ih]
        by_cases h : m < n + 1
        · simp [List.getD, h]
        · simp [List.getD, h]
    exact this _
  | j + 1, h => by
    unfold arL
    rw [pre_set _ _ _ (by rw [arL_len]; omega), arL_pre ps n j (by omega), if_pos (by omega)]
    rfl
theorem arL_nonneg {ps : List Int} (h : Nonneg ps) (n : Nat) : ∀ j, Nonneg (arL ps n j)
  | 0 => fun i => by
    show 0 ≤ (List.replicate (n + 1) (0 : Int)).getD i 0
    by_cases hi : i < n + 1
    · simp [List.getD, hi]
    · simp [List.getD, hi]
  | j + 1 => fun i => by
    unfold arL
    have h1 := arL_nonneg h n j
    by_cases e : (j + 1) / 2 = i
    · subst e
      by_cases hl : (j + 1) / 2 < (arL ps n j).length
      · have : ((arL ps n j).set ((j + 1) / 2) ((arL ps n j).getD ((j + 1) / 2) 0 + ps.getD j 0)).getD ((j + 1) / 2) 0 = (arL ps n j).getD ((j + 1) / 2) 0 + ps.getD j 0 := by simp [List.getD, hl]
        rw [this]
        have := h1 ((j + 1) / 2)
        have := h j
        omega
      · rw [List.set_eq_of_length_le (by omega)]
        exact h1 _
    · have : ((arL ps n j).set ((j + 1) / 2) ((arL ps n j).getD ((j + 1) / 2) 0 + ps.getD j 0)).getD i 0 = (arL ps n j).getD i 0 := by simp [List.getD, List.getElem?_set_ne e]
      rw [this]
      exact h1 i
theorem get_le_pre {xs : List Int} (h : Nonneg xs) {i m : Nat} (hi : i < m) : xs.getD i 0 ≤ pre xs m := by
  have h1 := pre_mono h (show i + 1 ≤ m by omega)
  have h2 := pre_nonneg h i
  have h3 : pre xs (i + 1) = pre xs i + xs.getD i 0 := rfl
  omega
theorem evL_nonneg {t : Int} {p : Nat} (ht : 0 ≤ t) : Nonneg (evL t p) := fun i => by
  unfold evL
  by_cases hi : i < p
  · rw [partsN_get _ _ _ _ _ hi]
    unfold shareAt
    have h1 := pre_mono (one_nonneg p) (show i ≤ i + 1 by omega)
    have h2 := Int.ediv_le_ediv (show 0 < (p : Int) by omega) (Int.mul_le_mul_of_nonneg_left h1 ht)
    omega
  · simp only [List.getD]
    rw [List.getElem?_eq_none (by rw [partsN_len]; omega)]
    simp
theorem evL_sum {t : Int} {p : Nat} (hp : 0 < p) : pre (evL t p) p = t := by
  unfold evL
  rw [parts_sum, one_pre p p (Nat.le_refl _), Int.mul_ediv_cancel _ (by omega)]
theorem flx_even_at (t P : Int) (p : Nat) (hP : P = (p : Int)) (hp2 : p ≤ 1024) (ht : lenB t = true) (w : World) :
    Calls Try.prog 83 #[.int .i64 t, .int .i64 P] w fun e w' => ∃ ao cap, e = .returned (.slice ao p cap) ∧ RowI w' ao p (evL t p) ∧ p ≤ cap ∧ cap ≤ maxLen ∧ (∀ g off, ao = some ⟨g, off, none⟩ → w.heap.size ≤ g) ∧ Below w.heap.size w w' := by
  subst hP; exact flx_even t p hp2 ht w
set_option maxRecDepth 100000 in
set_option maxHeartbeats 3200000 in
theorem flx_around (t : Int) (n : Nat) (hn : 1 ≤ n) (hn2 : n ≤ 500) (ht : lenB t = true) (h0 : 0 < t) (w : World) :
    Calls Try.prog 69 #[.int .i64 t, .int .i64 ((n : Int)), .int .i64 5] w fun e w' => e = .returned (.slice (some ⟨w.heap.size, 0, none⟩) (n + 1) (n + 1)) ∧ BlkI w' w.heap.size (arL (evL t (2 * n)) n (2 * n)) ∧ Below w.heap.size w w' := by
  obtain ⟨i0, hi, hz0, hz1, hz2⟩ := info_parts (show (Try.prog.info? 2).map (fun i => (i.zero, i.size, i.bytes)) = some (some (.int .i64 0), 1, 8) by kernel_rfl)
  obtain ⟨Q, eQ⟩ : ∃ Q : Ending → World → Prop, Q = fun e w' => e = .returned (.slice (some ⟨w.heap.size, 0, none⟩) (n + 1) (n + 1)) ∧ BlkI w' w.heap.size (arL (evL t (2 * n)) n (2 * n)) ∧ Below w.heap.size w w' := ⟨_, rfl⟩
  rw [← eQ]
  have EQ := Lib.hid eQ
  have EV := fun W => flx_even_at t (2 * (n : Int)) (2 * n) (by push_cast; rfl) (by omega) ht W
  have hL := (lenB_iff t).1 ht
  have hpn := evL_nonneg (t := t) (p := 2 * n) (by omega)
  have hps := evL_sum (t := t) (p := 2 * n) (by omega)
  obtain ⟨ps, eps⟩ : ∃ ps, evL t (2 * n) = ps := ⟨_, rfl⟩
  rw [eps] at EV hpn hps
  have EPS := Lib.hid eps
  have HPN := Lib.hid hpn
  have HPS := Lib.hid hps
  have HLL := Lib.hid hL
  have ht0 : ¬ t ≤ 0 := by omega
  have hl2 := hL.2
  clear eQ hL hpn hps eps ht
  go_enter Try.func69, Try.ntmps69
  go_wp2_with (at_make; refine wpList_make_row _ rfl _ _ 31 rfl 2 i0 (.int .i64 0) Try.underlying31 hi hz0 hz1 rfl _ _ (n + 1) rfl rfl ?b2 ?b3 ?_)
  case b2 => omega
  case b3 => omega
  have t7 := BlkI.zeros w (n + 1)
  have hB : Below w.heap.size w (w.alloc (.cells (madeCells #[.int .i64 0] (n + 1)) 2)) := (by repeat' (first | (with_reducible exact Below.refl _ _) | (with_reducible assumption) | (with_reducible refine below_alloc ?_ _ ?_) | (with_reducible refine below_set _ ?_ ?_) | (with_reducible refine Below.drew ?_) | (with_reducible refine below_dN ?_ _) | (apply below_thenA; assumption) | omega | (simp; done) | (simp; omega) | (simp [*]; done)))
  have hz : (w.alloc (.cells (madeCells #[.int .i64 0] (n + 1)) 2)).heap.size = w.heap.size + 1 := by simp
  have HZ := Lib.hid hz
  clear hz
  go_wp2_with fail
  refine (EV _).mono ?_
  rintro e w1 ⟨ap, cp, rfl, hp, hc1, hc2, hfr, hb⟩
  replace t7 := t7.below hb
  replace hB := hB.trans (hb.mono hB.size)
  have hfr2 : ∀ g off, ap = some ⟨g, off, none⟩ → g ≠ w.heap.size := fun g off e => by have := hfr g off e; rw [HZ.out] at this; omega
  have HFR := Lib.hid hfr2
  have HP := Lib.hid hp
  clear hb hfr hfr2 hp EV
  go_wp2_with fail
  go_loopg [56] (2 * n) (fun gk s56 wr => ∃ (j : Nat), j ≤ 2 * n ∧ gk = 2 * n - j ∧ s56 = .int .i64 ((j : Int)) ∧ BlkI wr w.heap.size (arL ps n j) ∧ RowI wr ap (2 * n) ps ∧ Below w.heap.size w wr)
  case atStart => exact ⟨0, by omega, by omega, rfl, t7, HP.out, hB⟩
  case round =>
    clear t7 hB
    obtain ⟨j, hj, rfl, rfl, t7, hp, hB⟩ := hrel
    by_cases hjk : j < 2 * n
    · have ix : (j : Int) < ((2 * n : Nat) : Int) := by omega
      have ixb : (j : Int) < 2 * (n : Int) := by omega
      obtain ⟨g, off, rfl, hg, hcx⟩ := hp.at hjk
      have hne : g ≠ w.heap.size := HFR.out g off rfl
      have hal := arL_len ps n j
      obtain ⟨i2, ei2⟩ : ∃ i, (j + 1) / 2 = i := ⟨_, rfl⟩
      have hi2 : i2 < n + 1 := by omega
      have hq : ((j : Int) + 1).tdiv 2 = (i2 : Int) := by rw [Int.tdiv_eq_ediv_of_nonneg (by omega)]; omega
      have ix2 : (i2 : Int) < ((n + 1 : Nat) : Int) := by omega
      have ix3 : (i2 : Int) < (n : Int) + 1 := by omega
      have hco := t7.cell (i := i2) (by rw [hal]; exact hi2)
      have hfo := t7.free i2
      have ha0 := arL_nonneg HPN.out n j i2
      have ha1 := get_le_pre (arL_nonneg HPN.out n j) hi2
      rw [arL_pre ps n j hj] at ha1
      have ha2 := pre_mono HPN.out hj
      rw [HPS.out] at ha2
      have hx0 := HPN.out j
      have hx1 := get_le_pre HPN.out hjk
      rw [HPS.out] at hx1
      have es : arL ps n (j + 1) = (arL ps n j).set i2 ((arL ps n j).getD i2 0 + ps.getD j 0) := by rw [← ei2]; rfl
      obtain ⟨x, ex⟩ : ∃ x, ps.getD j 0 = x := ⟨_, rfl⟩
      obtain ⟨y, ey⟩ : ∃ y, (arL ps n j).getD i2 0 = y := ⟨_, rfl⟩
      rw [ex] at hcx hx0 hx1 es
      rw [ey] at hco ha0 ha1 es
      have hnew := t7.put i2 (y + x)
      rw [← es] at hnew
      have hpn : RowI (wr.setCell ⟨w.heap.size, i2, none⟩ (.int .i64 (y + x))) (some ⟨g, off, none⟩) (2 * n) ps := hp.but (But.set _ _ _) (fun g' off' e => by
        obtain ⟨rfl, rfl⟩ : g = g' ∧ off = off' := by simpa using e
        exact hne)
      have hB2 := hB.setCell (p := ⟨w.heap.size, i2, none⟩) (Nat.le_refl _) (.int .i64 (y + x))
      have hwr : wrap64 (y + x) = y + x := by simp only [wrap64]; omega
      have HN := Lib.hid hnew
      have HP2 := Lib.hid hpn
      have HB2 := Lib.hid hB2
      clear ex ey es hal ei2 hnew hpn hB2 t7 hp hB ha2
      go_wp2_with fail
      go_roundg (2 * n - (j + 1))
      case measure => omega
      case rel => exact ⟨j + 1, by omega, rfl, by go_num, HN.out, HP2.out, HB2.out⟩
    · obtain rfl : j = 2 * n := by omega
      have ix : ¬ ((2 * n : Nat) : Int) < ((2 * n : Nat) : Int) := by omega
      have ixb : ¬ 2 * (n : Int) < 2 * (n : Int) := by omega
      go_wp2_with fail
      rw [EQ.out]
      refine ⟨rfl, ?_, hB⟩
      rw [EPS.out]
      exact t7
end Go.Proofs.Ythofammjbicogaa
