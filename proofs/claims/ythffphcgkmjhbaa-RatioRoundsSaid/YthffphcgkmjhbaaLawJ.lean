/-
  The statements of layer 2 that name the reference: RatioRounds.
-/
import Derived.Test.YthffphcgkmjhbaaLawI
import Derived.Test.YthffphcgkmjhbaaRefG
import Derived.Test.YthffphcgkmjhbaaRatE
namespace Go.Proofs.Ythffphcgkmjhbaa
open Go.RowKit
set_option linter.unusedSimpArgs false
set_option linter.unusedVariables false

theorem rat_down_v (x N D F : Int) (hx : IFit x) (hN : IFit N) (hD : IFit D) (hg : goodB N D = true) (hF : fq (x * N) D = F) (w : World) :
    Calls Try.prog 49 #[.agg #[.int .i64 N, .int .i64 D], .int .i64 x] w fun e w' => e = .returned (.tuple #[.int .i64 (intV F), .int .i64 (if intB F then 0 else 2)]) ∧ Below w.heap.size w w' := by
  subst hF
  refine (rat_down x N D hx hN hD w).mono fun _ _ h => ⟨?_, h.2.2.2⟩
  unfold intV
  cases hb : intB (fq (x * N) D)
  · exact h.2.2.1 hg (fun h => by rw [(intB_iff' _).2 h] at hb; cases hb)
  · exact h.2.1 hg ((intB_iff' _).1 hb)
theorem rat_half_v (x N D F : Int) (hx : IFit x) (hN : IFit N) (hD : IFit D) (hg : goodB N D = true) (hF : hq (x * N) D = F) (w : World) :
    Calls Try.prog 50 #[.agg #[.int .i64 N, .int .i64 D], .int .i64 x] w fun e w' => e = .returned (.tuple #[.int .i64 (intV F), .int .i64 (if intB F then 0 else 2)]) ∧ Below w.heap.size w w' := by
  subst hF
  refine (rat_half x N D hx hN hD w).mono fun _ _ h => ⟨?_, h.2.2.2⟩
  unfold intV
  cases hb : intB (hq (x * N) D)
  · exact h.2.2.1 hg (fun h => by rw [(intB_iff' _).2 h] at hb; cases hb)
  · exact h.2.1 hg ((intB_iff' _).1 hb)
theorem hq_fq (M d : Int) (hd : 1 ≤ d) : fq (2 * M + d) (2 * d) = hq M d := by
  have hr : fr M d = M % d := fr_pos (by omega)
  have e1 : ∀ a c : Int, 0 < c → fq a c = a / c := fun a c h => by unfold fq; rw [if_neg (by omega)]
  unfold hq
  rw [hr, e1 _ _ (by omega), e1 _ _ (by omega)]
  have h1 := Int.mul_ediv_add_emod M d
  have h2 : 0 ≤ M % d := Int.emod_nonneg _ (by omega)
  have h3 : M % d < d := Int.emod_lt_of_pos _ (by omega)
  obtain ⟨q, eq⟩ : ∃ q, M / d = q := ⟨_, rfl⟩
  obtain ⟨r, er⟩ : ∃ r, M % d = r := ⟨_, rfl⟩
  rw [eq, er] at h1 
  rw [er] at h2 h3
  rw [eq, er]
  have e : 2 * M + d = (2 * r + d) + (2 * d) * q := by rw [← h1, Int.mul_add, ← Int.mul_assoc]; omega
  rw [e, Int.add_mul_ediv_left _ _ (by omega)]
  by_cases h : d - r ≤ r
  · rw [if_pos h]
    have : (2 * r + d) / (2 * d) = 1 := by
      rw [show 2 * r + d = (2 * r - d) + (2 * d) * 1 by omega, Int.add_mul_ediv_left _ _ (by omega), Int.ediv_eq_zero_of_lt (by omega) (by omega)]; omega
    omega
  · rw [if_neg h]
    have : (2 * r + d) / (2 * d) = 0 := Int.ediv_eq_zero_of_lt (by omega) (by omega)
    omega
theorem ref_int_v (neg : Bool) (ao : Option Addr) (k cap : Nat) (X : Int) (w : World) (h : IsBig w neg ao k cap X) {K : Nat} (hX : BM.Sz X K) (hK : K ≤ 100000) :
    Calls Try.prog 29 #[.agg #[.bool neg, .slice ao k cap]] w fun e w' => e = .returned (.tuple #[.int .i64 (intV X), .bool (intB X)]) ∧ Below w.heap.size w w' := by
  have := h.le hX
  exact big_int neg ao k cap X w h (by omega)
set_option maxRecDepth 100000 in
set_option maxHeartbeats 3200000 in
theorem law_rounds_bad (n d x : Int) (hn : IFit n) (hd : IFit d) (hx : IFit x) (hg : goodB n d = false) (w : World) :
    Calls Try.prog 9 #[.int .i64 n, .int .i64 d, .int .i64 x] w fun e w' => e = .returned (.bool true) ∧ Below w.heap.size w w' := by
  have DN := fun W => (rat_down x n d hx hn hd W).mono fun _ _ h => (⟨h.1 hg, h.2.2.2⟩ : _ ∧ _)
  have HF := rat_half_bad x n d hn hd hg
  have RG := ref_good n d hn hd
  rw [hg] at RG
  clear hg hn hd hx
  go_enter Try.func9, Try.ntmps9
  go_wp2_with fail
  refine (speaks02 _).mono ?_
  rintro e w1 ⟨rfl, hb1⟩
  have t := Rx.new w1 (.int .i64 n) (.int .i64 d) _ rfl
  have hB := hb1.alloc hb1.size (.cells #[.int .i64 n, .int .i64 d] 57)
  obtain ⟨p1, p2, p3, p4⟩ := t.cells
  clear hb1
  go_wp2_with fail
  refine (DN _).mono ?_
  rintro e w2 ⟨rfl, hb2⟩
  replace t := t.below hb2
  replace hB := hB.trans (hb2.mono hB.size)
  clear p1 p2 p3 p4 hb2
  obtain ⟨p1, p2, p3, p4⟩ := t.cells
  go_wp2_with fail
  refine (HF _).mono ?_
  rintro e w3 ⟨rfl, hb3⟩
  replace hB := hB.trans (hb3.mono hB.size)
  clear p1 p2 p3 p4 hb3
  go_wp2_with fail
  refine (RG _).mono ?_
  rintro e w4 ⟨rfl, hb4⟩
  replace hB := hB.trans (hb4.mono hB.size)
  clear hb4
  go_wp2_with fail
  go_ret
  exact ⟨rfl, hB⟩
set_option maxRecDepth 100000 in
set_option maxHeartbeats 3200000 in
theorem law_rounds_good (n d x : Int) (hn : IFit n) (hd : IFit d) (hx : IFit x) (hg : goodB n d = true) (w : World) :
    Calls Try.prog 9 #[.int .i64 n, .int .i64 d, .int .i64 x] w fun e w' => e = .returned (.bool true) ∧ Below w.heap.size w w' := by
  have hd1 : 1 ≤ d := by unfold goodB at hg; simp at hg; omega
  have RG := ref_good n d hn hd
  rw [hg] at RG
  have sx := BM.Sz.i64 hx.1 hx.2
  have sn := BM.Sz.i64 hn.1 hn.2
  have sd := BM.Sz.i64 hd.1 hd.2
  have sxn := BM.Sz.mul sx sn
  have sF : BM.Sz (fq (x * n) d) (4 + 4) := sxn.le (fq_abs (by omega))
  have s2 := BM.Sz.mul (BM.Sz.u64 (n := 2) (by omega) (by omega)) sxn
  have s3 := BM.Sz.add s2 (sd.mono (k := 4 + (4 + 4)) (by omega))
  have sH : BM.Sz (fq (2 * (x * n) + d) (2 * d)) (4 + (4 + 4) + 1) := s3.le (fq_abs (by omega))
  have RD := ref2_down x n d hx hn hd (by omega)
  have RH := ref2_half x n d hx hn hd (by omega)
  rw [hq_fq (x * n) d hd1] at RH sH
  obtain ⟨F, eF⟩ : ∃ F, fq (x * n) d = F := ⟨_, rfl⟩
  obtain ⟨H, eH⟩ : ∃ H, hq (x * n) d = H := ⟨_, rfl⟩
  have DN := rat_down_v x n d F hx hn hd hg eF
  have HF := rat_half_v x n d H hx hn hd hg eH
  rw [eF] at RD sF
  rw [eH] at RH sH
  have IF := fun neg ao k cap W h => ref_int_v neg ao k cap F W h sF (by omega)
  have IH := fun neg ao k cap W h => ref_int_v neg ao k cap H W h sH (by omega)
  obtain ⟨p, ep⟩ : ∃ p, intV F = p := ⟨_, rfl⟩
  obtain ⟨bp, ebp⟩ : ∃ p, intB F = p := ⟨_, rfl⟩
  obtain ⟨q, eq⟩ : ∃ p, intV H = p := ⟨_, rfl⟩
  obtain ⟨bq, ebq⟩ : ∃ p, intB H = p := ⟨_, rfl⟩
  rw [ep, ebp] at DN IF
  rw [eq, ebq] at HF IH
  obtain ⟨u, eu⟩ : ∃ u : Int, (if bp = true then (0 : Int) else 2) = u := ⟨_, rfl⟩
  obtain ⟨v, ev⟩ : ∃ u : Int, (if bq = true then (0 : Int) else 2) = u := ⟨_, rfl⟩
  rw [eu] at DN
  rw [ev] at HF
  have EU := Lib.hid eu
  have EV := Lib.hid ev
  clear eu ev
  clear hg hn hd hx eF eH ep ebp eq ebq sx sn sd sxn sF sH s2 s3 hd1
  go_enter Try.func9, Try.ntmps9
  go_wp2_with fail
  refine (speaks02 _).mono ?_
  rintro e w1 ⟨rfl, hb1⟩
  have t := Rx.new w1 (.int .i64 n) (.int .i64 d) _ rfl
  have hB := hb1.alloc hb1.size (.cells #[.int .i64 n, .int .i64 d] 57)
  obtain ⟨p1, p2, p3, p4⟩ := t.cells
  clear hb1
  go_wp2_with fail
  refine (DN _).mono ?_
  rintro e w2 ⟨rfl, hb2⟩
  replace t := t.below hb2
  replace hB := hB.trans (hb2.mono hB.size)
  clear p1 p2 p3 p4 hb2
  obtain ⟨p1, p2, p3, p4⟩ := t.cells
  go_wp2_with fail
  refine (HF _).mono ?_
  rintro e w3 ⟨rfl, hb3⟩
  replace hB := hB.trans (hb3.mono hB.size)
  clear p1 p2 p3 p4 hb3
  go_wp2_with fail
  refine (RG _).mono ?_
  rintro e w4 ⟨rfl, hb4⟩
  replace hB := hB.trans (hb4.mono hB.size)
  clear hb4
  go_wp2_with fail
  refine (RD _).mono ?_
  rintro e w5 ⟨a1, a2, a3, a4, rfl, I5, hb5⟩
  replace hB := hB.trans (hb5.mono hB.size)
  clear hb5
  go_wp2_with fail
  refine (IF _ _ _ _ _ I5).mono ?_
  rintro e w6 ⟨rfl, hb6⟩
  replace hB := hB.trans (hb6.mono hB.size)
  clear hb6 I5
  go_wp2_with fail
  refine (RH _).mono ?_
  rintro e w7 ⟨b1, b2, b3, b4, rfl, I7, hb7⟩
  replace hB := hB.trans (hb7.mono hB.size)
  clear hb7
  go_wp2_with fail
  refine (IH _ _ _ _ _ I7).mono ?_
  rintro e w8 ⟨rfl, hb8⟩
  replace hB := hB.trans (hb8.mono hB.size)
  clear hb8 I7 RG DN HF RD RH IF IH
  cases bp <;> cases bq
  all_goals
    have eu := EU.out
    have ev := EV.out
    simp at eu ev
    subst eu ev
    clear EU EV
    go_wp2_with fail
    go_ret
    exact ⟨rfl, hB⟩
theorem law_rounds (n d x : Int) (hn : IFit n) (hd : IFit d) (hx : IFit x) (w : World) :
    Calls Try.prog 9 #[.int .i64 n, .int .i64 d, .int .i64 x] w fun e w' => e = .returned (.bool true) ∧ Below w.heap.size w w' := by
  cases hg : goodB n d
  · exact law_rounds_bad n d x hn hd hx hg w
  · exact law_rounds_good n d x hn hd hx hg w
end Go.Proofs.Ythffphcgkmjhbaa
